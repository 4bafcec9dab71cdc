import Derived.Test.YtfapaehjmbekpaaDoorWForms
import Derived.Test.YtfapaehjmbekpaaDoorRows
namespace Go.Proofs.YtfapaehjmbekpaaDoor
open Go.ChangeShapes Go.WideShapes Go.ChangeAt Go.RowKit Go.Deep
set_option linter.unusedSimpArgs false
set_option linter.unusedVariables false
theorem bulk_len {H : Type} : ∀ l : List (DataW H), l.length ≤ Rows.uptoBulkAll l
  | [] => by simp [Rows.uptoBulkAll]
  | x :: r => by
    have h1 := bulk_len r
    have h2 : 1 ≤ Rows.uptoBulk x := by
      cases x with
      | lit l => cases l <;> simp [Rows.uptoBulk]
      | _ => simp [Rows.uptoBulk]
    simp only [Rows.uptoBulkAll, List.length_cons]
    omega
theorem bulk_part {H : Type} : ∀ {l : List (DataW H)} {j : Nat} {d : DataW H}, l[j]? = some d → Rows.uptoBulk d ≤ Rows.uptoBulkAll l
  | [], _, _, h => by simp at h
  | x :: r, 0, d, h => by
    simp at h
    subst h
    simp only [Rows.uptoBulkAll]
    omega
  | x :: r, j + 1, d, h => by
    have := bulk_part (l := r) (j := j) (d := d) (by simpa using h)
    simp only [Rows.uptoBulkAll]
    omega
theorem bulk_slice {H : Type} {enc : TypeId × Value → H} {P : Program} {w : World} {t te : TypeId} {r : Reach} {b0 : Nat} {v : Value} {d : DataW H} {p : List MemPlace} (hu : P.underlying t = some (.slice te))
    (hv : Value.okWide P w r b0 t v) (h : DataW.Trod enc P w 0 (fun _ => true) true t v d p) {ds : List (DataW H)} (hk : Rows.uptoSmall H ds = true) {j : Nat} (hd : ds[j]? = some d) :
    ∀ q n c, v = .slice q n c → c ≤ 1048576 := by
  intro q n c e
  subst e
  have hb := bulk_part hd
  have hs : Rows.uptoBulkAll ds ≤ 1048576 := by simpa [Rows.uptoSmall] using hk
  obtain ⟨fuel, hf⟩ := h
  rcases open_slice hu hf with ⟨h0, _⟩ | ⟨a, len, cap, m, k, D, Pl, h1, _, hl, hm, hmm, hx, hi⟩
  · simp [Value.cells] at h0
    obtain ⟨_, _, rfl⟩ := h0
    omega
  · simp [Value.cells] at h1
    obtain ⟨rfl, rfl, rfl⟩ := h1
    injection hx with hx1 hx2
    subst hx1
    have g1 := bulk_len ((List.range n).map D)
    have g2 := bulk_len ((List.range (m - n)).map fun j => D (n + j))
    simp only [Rows.uptoBulk] at hb
    simp at g1 g2 hmm
    omega
theorem forms_law (file base idx : Int) (v1 v2 : Value) (w : World) (h0 : (Lit.int .u64 file).wf = true) (h1 : (Lit.int .i64 base).wf = true) (h2 : (Lit.int .i64 idx).wf = true) (h3 : (Sh.slice (.int .u8)).Holds w [v1]) (y3 : ∀ q n c, v1 = .slice q n c → c ≤ 1048576) (h4 : (Sh.slice (.int .u8)).Holds w [v2]) (y4 : ∀ q n c, v2 = .slice q n c → c ≤ 1048576) (hT : Nib w) :
    Calls Tryd.prog 3 #[.int .u64 file, .int .i64 base, .int .i64 idx, v1, v2] w fun e w' => e = .returned (.bool true) ∧ Below w.heap.size w w' := by
  have f0 := wf_u64 h0
  obtain ⟨f, rfl⟩ : ∃ f : Nat, file = f := ⟨file.toNat, by omega⟩
  obtain ⟨p, body, c, rfl, g1, g2, g3, g4, _⟩ := bytes_open h3
  obtain ⟨q, data, d, rfl, k1, k2, k3, k4, _⟩ := bytes_open h4
  have a3 := y3 _ _ _ rfl
  have a4 := y4 _ _ _ rfl
  exact forms_at f base idx p q body.length c data.length d body data w (by omega) rfl rfl (by omega) (by omega) g2 k1 g3 k3 g4 k4 hT
end Go.Proofs.YtfapaehjmbekpaaDoor
