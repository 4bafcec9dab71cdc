import Derived.Test.YtfapaehjmbekpaaDoorWForm1
import Derived.Deep.AppendSrc
namespace Go.Proofs.YtfapaehjmbekpaaDoor
open Go.RowKit
set_option linter.unusedSimpArgs false
set_option linter.unusedVariables false
set_option maxRecDepth 100000 in
set_option maxHeartbeats 1600000 in
theorem kept_at (g cap : Nat) (p : Option Addr) (n c : Nat) (l : List Int) (w : World) (hl : l.length = n) (hm : n ≤ 1000000000) (hcap : n + 3 ≤ cap) (hd : RdB w (some ⟨g, 0, none⟩) (l ++ [161, 162, 163])) (hp : RdB w p l) :
    Calls Tryd.prog 12 #[.slice (some ⟨g, 0, none⟩) n cap, .slice p n c] w fun e w' => e = .returned (.bool true) ∧ Below w.heap.size w w' := by
  have E := wsame_at (some ⟨g, 0, none⟩) p n cap n c l l w hl hl (by unfold maxLen; omega) hd.left hp
  rw [eqB_true rfl] at E
  have E := Lib.hid E
  have hc : ∀ i, i < 3 → ∃ h : n + i < (l ++ [161, 162, 163]).length, g < w.heap.size ∧ w.cell? ⟨g, n + i, none⟩ = some (.int .u8 (l ++ [161, 162, 163])[n + i]) := fun i hi => by
    have h : n + i < (l ++ [161, 162, 163]).length := by rw [List.length_append, hl]; simp; omega
    obtain ⟨b, o, e, h1, h2⟩ := hd (n + i) h
    injection e with e
    injection e with e1 e2
    subst e1 e2
    exact ⟨h, h1, by rw [Nat.zero_add] at h2; exact h2⟩
  have hv : ∀ i (h : n + i < (l ++ [161, 162, 163]).length), (l ++ [161, 162, 163])[n + i] = [161, 162, 163].getD i 0 := fun i h => by
    have h3 := List.getElem?_eq_getElem h
    rw [List.getElem?_append_right (by omega), show n + i - l.length = i by omega] at h3
    rw [List.getD_eq_getElem?_getD, h3]
    rfl
  obtain ⟨h0, hg, c0⟩ := hc 0 (by omega)
  obtain ⟨h1, _, c1⟩ := hc 1 (by omega)
  obtain ⟨h2, _, c2⟩ := hc 2 (by omega)
  rw [hv 0 h0] at c0
  rw [hv 1 h1] at c1
  rw [hv 2 h2] at c2
  rw [Nat.add_zero] at c0
  simp only [List.getD_cons_zero, List.getD_cons_succ] at c0 c1 c2
  have i0 : ((n : Nat) : Int) + 3 ≤ (cap : Nat) := by omega
  have i1 : (0 : Int) ≤ ((n : Nat) : Int) + 3 := by omega
  have t3 : (((n : Nat) : Int) + 3).toNat = n + 3 := by omega
  have t1 : (((n : Nat) : Int) + 1).toNat = n + 1 := by omega
  have t2 : (((n : Nat) : Int) + 2).toNat = n + 2 := by omega
  clear hc hv hd hp h0 h1 h2 hl
  go_enter Tryd.func12, Tryd.ntmps12
  go_wp2_with fail
  refine E.out.mono ?_
  rintro e w1 ⟨rfl, hb1⟩
  have hc1 := (bcell hb1).1
  go_wp2
  go_ret
  exact ⟨by simp, hb1⟩
end Go.Proofs.YtfapaehjmbekpaaDoor
