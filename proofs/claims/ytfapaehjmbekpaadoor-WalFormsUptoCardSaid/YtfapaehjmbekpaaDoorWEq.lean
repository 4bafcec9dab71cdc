import Derived.Test.YtfapaehjmbekpaaDoorWB
namespace Go.Proofs.YtfapaehjmbekpaaDoor
open Go.RowKit
set_option linter.unusedSimpArgs false
set_option linter.unusedVariables false
def eqB (l r : List Int) : Bool := decide (l = r)
theorem eqB_true {l r : List Int} (h : l = r) : eqB l r = true := decide_eq_true h
theorem eqB_false {l r : List Int} (h : l ≠ r) : eqB l r = false := decide_eq_false h
theorem take_next {l r : List Int} {k : Nat} (hk : k < l.length) (hl : l.length = r.length) (h : l.take k = r.take k) (he : l[k] = r[k]'(by omega)) : l.take (k + 1) = r.take (k + 1) := by
  rw [List.take_succ_eq_append_getElem hk, List.take_succ_eq_append_getElem (by omega : k < r.length), h, he]
theorem RdB.at {w : World} {p : Option Addr} {l : List Int} {k : Nat} (h : RdB w p l) (hk : k < l.length) : ∃ b o, p = some ⟨b, o, none⟩ ∧ b < w.heap.size ∧ w.cell? ⟨b, o + k, none⟩ = some (.int .u8 l[k]) := h k hk
set_option maxRecDepth 100000 in
set_option maxHeartbeats 1600000 in
theorem equal_at (p q : Option Addr) (n c m d : Nat) (l r : List Int) (w : World) (hl : l.length = n) (hr : r.length = m) (hm : n ≤ maxLen) (hp : RdB w p l) (hq : RdB w q r) :
    Calls Tryd.prog 38 #[.slice p n c, .slice q m d] w fun e w' => e = .returned (.bool (eqB l r)) ∧ Below w.heap.size w w' := by
    have HL := Lib.hid hl
    have HR := Lib.hid hr
    have HP := Lib.hid hp
    have HQ := Lib.hid hq
    unfold maxLen at hm
    clear hr hl hp hq
    by_cases hnm : n = m
    · subst hnm
      have hlr : l.length = r.length := by rw [HL.out, HR.out]
      replace hlr := Lib.hid hlr
      go_enter Tryd.func38, Tryd.ntmps38
      go_wp2
      go_loopw [13] (fun i wr => ∃ k : Nat, k ≤ n ∧ i = .int .i64 k ∧ l.take k = r.take k ∧ Below w.heap.size w wr) (fun i _ => n - (intOf i).toNat)
      case atStart => exact ⟨0, Nat.zero_le _, rfl, rfl, Below.refl _ _⟩
      case round =>
        obtain ⟨k, hk, rfl, ht, hB⟩ := hrel
        have hT := Lib.hid ht
        clear ht
        by_cases hlt : k < n
        · obtain ⟨b, o, rfl, hb, hc⟩ := (HP.out.below hB).at (k := k) (by rw [HL.out]; exact hlt)
          obtain ⟨b', o', rfl, hb', hc'⟩ := (HQ.out.below hB).at (k := k) (by rw [HR.out]; exact hlt)
          obtain ⟨x, hx⟩ : ∃ x, x = l[k]'(by rw [HL.out]; exact hlt) := ⟨_, rfl⟩
          obtain ⟨y, hy⟩ : ∃ y, y = r[k]'(by rw [HR.out]; exact hlt) := ⟨_, rfl⟩
          rw [← hx] at hc
          rw [← hy] at hc'
          have hk0 : (0 : Int) ≤ (k : Int) := Int.natCast_nonneg _
          have hk1 : (k : Int) < (n : Int) := by omega
          by_cases he : x = y
          · have hn := take_next (l := l) (r := r) (k := k) (by rw [HL.out]; exact hlt) hlr.out hT.out (by rw [← hx, ← hy, he])
            replace hn := Lib.hid hn
            subst he
            clear hx hy
            go_wp2
            go_quiet (fail)
            go_wp2
            go_roundw
            case rel => exact ⟨k + 1, by omega, by go_num, hn.out, by repeat (first | exact hB | refine Below.drew ?_ | refine below_drewN ?_)⟩
            case measure => simp [intOf]; omega
          · have hf : Hid (eqB l r = false) := Lib.hid (eqB_false fun h => he (by rw [hx, hy]; subst h; rfl))
            have he1 : (x == y) = false := by simpa using he
            have he2 : (x != y) = true := by simpa using he
            clear hx hy
            go_wp2
            go_quiet (fail)
            go_wp2
            go_ret
            exact ⟨by rw [hf.out]; rfl, by repeat (first | exact hB | refine Below.drew ?_ | refine below_drewN ?_)⟩
        · obtain rfl : k = n := by omega
          have ht : Hid (eqB l r = true) := Lib.hid (eqB_true (by
            have h := hT.out
            rw [List.take_of_length_le (by rw [HL.out]; exact Nat.le_refl _), List.take_of_length_le (by rw [HR.out]; exact Nat.le_refl _)] at h
            exact h))
          go_wp2
          go_ret
          exact ⟨by rw [ht.out]; rfl, hB⟩
    · have hf : Hid (eqB l r = false) := Lib.hid (eqB_false fun h => hnm (by rw [← HL.out, ← HR.out, h]))
      have hnm' : ¬ ((n : Nat) : Int) = (m : Nat) := by omega
      go_enter Tryd.func38, Tryd.ntmps38
      go_wp2
      go_ret
      exact ⟨by rw [hf.out]; rfl, Below.refl _ _⟩
set_option maxRecDepth 100000 in
set_option maxHeartbeats 1600000 in
theorem wsame_at (p q : Option Addr) (n c m d : Nat) (l r : List Int) (w : World) (hl : l.length = n) (hr : r.length = m) (hm : n ≤ maxLen) (hp : RdB w p l) (hq : RdB w q r) :
    Calls Tryd.prog 8 #[.slice p n c, .slice q m d] w fun e w' => e = .returned (.bool (eqB l r)) ∧ Below w.heap.size w w' := by
    have HL := Lib.hid hl
    have HR := Lib.hid hr
    have HP := Lib.hid hp
    have HQ := Lib.hid hq
    unfold maxLen at hm
    clear hr hl hp hq
    by_cases hnm : n = m
    · subst hnm
      have hlr : l.length = r.length := by rw [HL.out, HR.out]
      replace hlr := Lib.hid hlr
      go_enter Tryd.func8, Tryd.ntmps8
      go_wp2
      go_loopw [5] (fun i wr => ∃ k : Nat, k ≤ n ∧ i = .int .i64 k ∧ l.take k = r.take k ∧ Below w.heap.size w wr) (fun i _ => n - (intOf i).toNat)
      case atStart => exact ⟨0, Nat.zero_le _, rfl, rfl, Below.refl _ _⟩
      case round =>
        obtain ⟨k, hk, rfl, ht, hB⟩ := hrel
        have hT := Lib.hid ht
        clear ht
        by_cases hlt : k < n
        · obtain ⟨b, o, rfl, hb, hc⟩ := (HP.out.below hB).at (k := k) (by rw [HL.out]; exact hlt)
          obtain ⟨b', o', rfl, hb', hc'⟩ := (HQ.out.below hB).at (k := k) (by rw [HR.out]; exact hlt)
          obtain ⟨x, hx⟩ : ∃ x, x = l[k]'(by rw [HL.out]; exact hlt) := ⟨_, rfl⟩
          obtain ⟨y, hy⟩ : ∃ y, y = r[k]'(by rw [HR.out]; exact hlt) := ⟨_, rfl⟩
          rw [← hx] at hc
          rw [← hy] at hc'
          have hk0 : (0 : Int) ≤ (k : Int) := Int.natCast_nonneg _
          have hk1 : (k : Int) < (n : Int) := by omega
          by_cases he : x = y
          · have hn := take_next (l := l) (r := r) (k := k) (by rw [HL.out]; exact hlt) hlr.out hT.out (by rw [← hx, ← hy, he])
            replace hn := Lib.hid hn
            subst he
            clear hx hy
            go_wp2
            go_quiet (fail)
            go_wp2
            go_roundw
            case rel => exact ⟨k + 1, by omega, by go_num, hn.out, by repeat (first | exact hB | refine Below.drew ?_ | refine below_drewN ?_)⟩
            case measure => simp [intOf]; omega
          · have hf : Hid (eqB l r = false) := Lib.hid (eqB_false fun h => he (by rw [hx, hy]; subst h; rfl))
            have he1 : (x == y) = false := by simpa using he
            have he2 : (x != y) = true := by simpa using he
            clear hx hy
            go_wp2
            go_quiet (fail)
            go_wp2
            go_ret
            exact ⟨by rw [hf.out]; rfl, by repeat (first | exact hB | refine Below.drew ?_ | refine below_drewN ?_)⟩
        · obtain rfl : k = n := by omega
          have ht : Hid (eqB l r = true) := Lib.hid (eqB_true (by
            have h := hT.out
            rw [List.take_of_length_le (by rw [HL.out]; exact Nat.le_refl _), List.take_of_length_le (by rw [HR.out]; exact Nat.le_refl _)] at h
            exact h))
          go_wp2
          go_ret
          exact ⟨by rw [ht.out]; rfl, hB⟩
    · have hf : Hid (eqB l r = false) := Lib.hid (eqB_false fun h => hnm (by rw [← HL.out, ← HR.out, h]))
      have hnm' : ¬ ((n : Nat) : Int) = (m : Nat) := by omega
      go_enter Tryd.func8, Tryd.ntmps8
      go_wp2
      go_ret
      exact ⟨by rw [hf.out]; rfl, Below.refl _ _⟩
end Go.Proofs.YtfapaehjmbekpaaDoor
