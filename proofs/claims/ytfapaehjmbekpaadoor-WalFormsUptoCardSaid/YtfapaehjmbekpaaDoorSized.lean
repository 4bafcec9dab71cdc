/- What the reach of a reading says of a slice that came in: its places take fewer than 2^47 bytes. -/
import Derived.Test.YtfapaehjmbekpaaDoorOpen
import Derived.SizedLaws
namespace Go.Proofs.YtfapaehjmbekpaaDoor
open Go.ChangeShapes Go.WideShapes Go.ChangeAt Go.RowKit Go.Deep
set_option linter.unusedVariables false
theorem reach_slice {H : Type} {enc : TypeId × Value → H} {P : Program} {w : World} {t te : TypeId} {r : Reach} {b0 : Nat} {v : Value} {d : DataW H} {p : List MemPlace} (hu : P.underlying t = some (.slice te))
    (hv : Value.okWide P w r b0 t v) (h : DataW.Trod enc P w 0 (fun _ => true) true t v d p) {ts : List TypeId} {ds : List (DataW H)} (hS : (DataW.weightsEach P ts ds).all (· ≤ reachBytes) = true) {j : Nat} (ht : ts[j]? = some t) (hd : ds[j]? = some d) :
    ∀ q n c, v = .slice q n c → c * P.bytesOf te ≤ reachBytes := by
  intro q n c e
  subst e
  obtain ⟨fuel, hf⟩ := h
  rcases open_slice hu hf with ⟨h0, _⟩ | ⟨a, len, cap, m, k, D, Pl, h1, _, hl, hm, hmm, hx, hi⟩
  · simp [Value.cells] at h0
    obtain ⟨_, _, rfl⟩ := h0
    simp
  · simp [Value.cells] at h1
    obtain ⟨rfl, rfl, rfl⟩ := h1
    injection hx with hx1 hx2
    subst hx1
    have := sized_slice hS ht hd hu
    simp at this
    rw [hmm] at this
    simp at this
    rwa [show n + (c - n) = c by omega] at this
end Go.Proofs.YtfapaehjmbekpaaDoor
