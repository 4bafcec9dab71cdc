import Derived.Test.YtfapaehjmbekpaaDoorWLend
namespace Go.Proofs.YtfapaehjmbekpaaDoor
open Go.RowKit
set_option linter.unusedSimpArgs false
set_option linter.unusedVariables false
theorem RdB.take {w : World} {p : Option Addr} {l : List Int} (k : Nat) (h : RdB w p l) : RdB w p (l.take k) := fun j hj => by
  obtain ⟨b, o, h1, h2, h3⟩ := h j (by simp at hj; omega)
  exact ⟨b, o, h1, h2, by rw [h3]; simp⟩
theorem RdB.left {w : World} {p : Option Addr} {l r : List Int} (h : RdB w p (l ++ r)) : RdB w p l := by
  have := h.take l.length
  rwa [List.take_append_of_le_length (Nat.le_refl _), List.take_of_length_le (Nat.le_refl _)] at this
theorem Byt.take {l : List Int} (k : Nat) (h : Byt l) : Byt (l.take k) := fun j hj => by
  have := h j (by simp at hj; omega)
  simpa using this
theorem Byt.drop {l : List Int} (k : Nat) (h : Byt l) : Byt (l.drop k) := fun j hj => by
  have := h (k + j) (by simp at hj; omega)
  simpa using this
/-- The address of a slice's part from k on. -/
def dropP (p : Option Addr) (k c : Nat) : Option Addr := if c = k then p else p.map (·.add k)
theorem RdB.drop {w : World} {p : Option Addr} {l : List Int} (k c : Nat) (h : RdB w p l) (hc : l.length ≤ c) : RdB w (dropP p k c) (l.drop k) := fun j hj => by
  simp at hj
  obtain ⟨b, o, rfl, h2, h3⟩ := h (k + j) (by omega)
  refine ⟨b, o + k, ?_, h2, ?_⟩
  · unfold dropP
    rw [if_neg (by omega)]
    simp [Addr.add]
  · rw [show o + k + j = o + (k + j) by omega, h3]; simp
/-- Does l begin with r? -/
def pfxB (l r : List Int) : Bool := eqB (l.take r.length) r
theorem pfxB_short {l r : List Int} (h : l.length < r.length) : pfxB l r = false := eqB_false fun e => by
  have := congrArg List.length e
  simp at this
  omega
set_option maxRecDepth 100000 in
set_option maxHeartbeats 1600000 in
theorem wown_nil (p : Option Addr) (c : Nat) (w : World) : Calls Tryd.prog 33 #[.slice p 0 c] w fun e w' => e = .returned (.slice none 0 0) ∧ w = w' := by
  go_enter Tryd.func33, Tryd.ntmps33
  go_wp2
  go_ret
  exact ⟨rfl, rfl⟩
set_option maxRecDepth 100000 in
set_option maxHeartbeats 1600000 in
theorem wown_some (p : Option Addr) (n c : Nat) (l : List Int) (w : World) (hl : l.length = n) (h0 : 0 < n) (hm : n ≤ 1000000000000) (hr : RdB w p l) :
    Calls Tryd.prog 33 #[.slice p n c] w fun e w' => ∃ v', e = .returned v' ∧ OwnB w' w.heap.size v' l ∧ Below w.heap.size w w' := by
  have HR := Lib.hid hr
  replace hl := Lib.hid hl
  have h0' : ¬ ((n : Nat) : Int) = 0 := by omega
  obtain ⟨b, o, rfl, _, _⟩ := hr.at (k := 0) (by rw [hl.out]; omega)
  clear hr
  go_enter Tryd.func33, Tryd.ntmps33
  go_wp2_with (at_make; go_loud (refine byte_make rfl _ _ rfl w.heap.size n _ rfl rfl (by simp) (by omega) (Nat.le_refl _) ?_))
  intro w1 ho1 hb1 hz1
  have hr1 := Lib.hid (HR.out.below hb1)
  replace ho1 := Lib.hid ho1
  replace hb1 := Lib.hid hb1
  go_wp2_with (at_builtin; go_loud (refine byte_fits rfl _ _ rfl w.heap.size w.heap.size 0 n [] rfl rfl ho1.out _ n c l hl.out rfl ?q1 (by omega) ?_))
  case q1 =>
    intro j u hj
    have hj' : j < l.length := by
      have := (List.getElem?_eq_some_iff.1 hj).1
      simpa using this
    obtain ⟨b', o', e1, e2, e3⟩ := hr1.out j hj'
    injection e1 with e1
    injection e1 with e4 e5
    subst e4 e5
    rw [Addr.add_lit, e3]
    simp [List.getElem?_map, hj'] at hj
    rw [← hj]
  intro w3 ho3 hg3
  replace ho3 := Lib.hid ho3
  replace hg3 := Lib.hid hg3
  go_wp2
  go_ret
  have h_ : OwnB w3 w.heap.size (.slice (some ⟨w.heap.size, 0, none⟩) n n) l := by
    simpa using ho3.out
  refine ⟨.slice (some ⟨w.heap.size, 0, none⟩) n n, ?_, h_, hb1.out.trans hg3.out⟩
  first | rfl | (show Ending.returned (.slice _ (0 + n) n) = _; rw [Nat.zero_add])
theorem wown_at (p : Option Addr) (n c : Nat) (l : List Int) (w : World) (hl : l.length = n) (hm : n ≤ 1000000000000) (hr : RdB w p l) :
    Calls Tryd.prog 33 #[.slice p n c] w fun e w' => ∃ v', e = .returned v' ∧ OwnB w' w.heap.size v' l ∧ Below w.heap.size w w' := by
  by_cases h0 : 0 < n
  · exact wown_some p n c l w hl h0 hm hr
  · obtain rfl : n = 0 := by omega
    obtain rfl : l = [] := List.eq_nil_of_length_eq_zero hl
    exact (wown_nil p c w).mono fun e w' ⟨h1, h2⟩ => ⟨_, h1, ownB_nil _ _, h2 ▸ Below.refl _ _⟩
set_option maxRecDepth 100000 in
set_option maxHeartbeats 1600000 in
theorem starts_at (p q : Option Addr) (n c m d : Nat) (l r : List Int) (w : World) (hl : l.length = n) (hr : r.length = m) (hc : n ≤ c) (hm : n ≤ maxLen) (hp : RdB w p l) (hq : RdB w q r) :
    Calls Tryd.prog 32 #[.slice p n c, .slice q m d] w fun e w' => e = .returned (.bool (pfxB l r)) ∧ Below w.heap.size w w' := by
  by_cases hnm : m ≤ n
  · have E := Lib.hid (equal_at p q m c m d (l.take m) r w (by simp; omega) hr (by omega) (hp.take m) hq)
    have hx : eqB (l.take m) r = pfxB l r := by unfold pfxB; rw [hr]
    rw [hx] at E
    clear hx hp hq hr hl
    go_enter Tryd.func32, Tryd.ntmps32
    go_wp2_with fail
    refine E.out.mono ?_
    rintro e w1 ⟨rfl, hb1⟩
    replace hb1 := Lib.hid hb1
    go_wp2
    go_ret
    exact ⟨rfl, hb1.out⟩
  · rw [pfxB_short (by omega)]
    have hd : ¬ ((m : Nat) : Int) ≤ (n : Nat) := by omega
    clear hp hq hr hl
    go_enter Tryd.func32, Tryd.ntmps32
    go_wp2
    go_ret
    exact ⟨by simp, Below.refl _ _⟩
end Go.Proofs.YtfapaehjmbekpaaDoor
