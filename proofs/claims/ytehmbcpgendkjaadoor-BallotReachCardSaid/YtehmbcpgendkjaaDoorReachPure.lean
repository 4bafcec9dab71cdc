/- Plain counting behind BallotReach: at the k-th highest mark or above lie at least k marks, above it fewer; the mark is one and the same in any order. -/
import Derived.WalkKit
import Derived.Test.YtehmbcpgendkjaaDoorMaj
namespace Go.Proofs.YtehmbcpgendkjaaDoor
set_option linter.unusedSimpArgs false
set_option linter.unusedVariables false
/-- The set of those below k for which f says yes. -/
def setTo (f : Nat → Bool) : Nat → Nat
  | 0 => 0
  | k + 1 => if f k = true then withB (setTo f k) (k : Nat) else setTo f k
theorem setTo_yes {f : Nat → Bool} {k : Nat} (h : f k = true) : setTo f (k + 1) = withB (setTo f k) (k : Nat) := by simp [setTo, h]
theorem setTo_no {f : Nat → Bool} {k : Nat} (h : f k = false) : setTo f (k + 1) = setTo f k := by simp [setTo, h]
theorem setTo_lt (f : Nat → Bool) : ∀ k, setTo f k < 4294967296
  | 0 => by simp [setTo]
  | k + 1 => by
    unfold setTo
    split
    · exact withB_lt _ (setTo_lt f k)
    · exact setTo_lt f k
theorem setTo_bit (f : Nat → Bool) : ∀ k, k ≤ 32 → ∀ i, (setTo f k).testBit i = (decide (i < k) && f i)
  | 0, _, i => by simp [setTo]
  | k + 1, hk, i => by
    have ih := setTo_bit f k (by omega) i
    unfold setTo
    by_cases h : f k = true
    · rw [if_pos h, withB_bit, ih, Bool.eq_iff_iff]
      simp
      constructor
      · rintro (⟨h1, h2⟩ | ⟨h1, h2⟩)
        · exact ⟨by omega, h2⟩
        · obtain rfl : i = k := by omega
          exact ⟨by omega, h⟩
      · rintro ⟨h1, h2⟩
        by_cases e : i = k
        · right; omega
        · left; exact ⟨by omega, h2⟩
    · rw [if_neg h, ih, Bool.eq_iff_iff]
      simp
      intro h2
      constructor
      · intro h1; omega
      · intro h1
        by_cases e : i = k
        · subst e; exact absurd h2 h
        · omega
theorem setTo_cnt (f : Nat → Bool) (n : Nat) (hn : n ≤ 32) : cntTo (setTo f n) n = ((List.range n).filter f).length := by
  unfold cntTo
  congr 1
  refine List.filter_congr fun i hi => ?_
  rw [setTo_bit f n hn, decide_eq_true (List.mem_range.1 hi), Bool.true_and]
theorem range_getD : ∀ (zs : List Int) (p : Int → Bool), ((List.range zs.length).filter fun i => p (zs.getD i 0)).length = zs.countP p
  | [], p => by simp
  | z :: r, p => by
    have ih := range_getD r p
    rw [List.length_cons, List.range_succ_eq_map, List.filter_cons, List.filter_map, List.countP_cons]
    have e : (List.filter ((fun i => p ((z :: r).getD i 0)) ∘ Nat.succ) (List.range r.length)) = (List.range r.length).filter fun i => p (r.getD i 0) := List.filter_congr fun i _ => by simp
    rw [e, ← ih]
    by_cases h : p z = true <;> simp [h]
/-- The k-th highest of n. -/
def IsMark (zs : List Int) (k : Nat) (m : Int) : Prop := k ≤ zs.countP (fun z => decide (m ≤ z)) ∧ zs.countP (fun z => decide (m < z)) < k
theorem countP_range (ys : List Int) (p : Int → Bool) (a : Nat) (ha : a ≤ ys.length) (h : ∀ i, a ≤ i → i < ys.length → p (ys.getD i 0) = true) : ys.length - a ≤ ys.countP p := by
  rw [← range_getD]
  have h1 : (List.range' a (ys.length - a)).length ≤ ((List.range ys.length).filter fun i => p (ys.getD i 0)).length := by
    have h2 : List.range ys.length = List.range a ++ List.range' a (ys.length - a) := by
      rw [List.range_eq_range', List.range_eq_range', show ys.length = a + (ys.length - a) by omega, ← List.range'_append_1]
      simp
    rw [h2, List.filter_append, List.length_append]
    have h3 : (List.range' a (ys.length - a)).filter (fun i => p (ys.getD i 0)) = List.range' a (ys.length - a) := by
      refine List.filter_eq_self.2 fun i hi => ?_
      have := List.mem_range'_1.1 hi
      exact h i this.1 (by omega)
    rw [h3]; omega
  simpa using h1
theorem countP_upto (ys : List Int) (p : Int → Bool) (a : Nat) (ha : a ≤ ys.length) (h : ∀ i, i < a → p (ys.getD i 0) = false) : ys.countP p ≤ ys.length - a := by
  rw [← range_getD]
  have h2 : List.range ys.length = List.range a ++ List.range' a (ys.length - a) := by
    rw [List.range_eq_range', List.range_eq_range', show ys.length = a + (ys.length - a) by omega, ← List.range'_append_1]
    simp
  rw [h2, List.filter_append, List.length_append]
  have h3 : (List.range a).filter (fun i => p (ys.getD i 0)) = [] := by
    refine List.filter_eq_nil_iff.2 fun i hi => ?_
    rw [h i (List.mem_range.1 hi)]; simp
  rw [h3]
  have := List.length_filter_le (fun i => p (ys.getD i 0)) (List.range' a (ys.length - a))
  simp at this ⊢
  omega
theorem isMark_of {zs ys : List Int} {k : Nat} (hp : ys.Perm zs) (hs : ∀ p q, p < q → q < zs.length → ys.getD p 0 ≤ ys.getD q 0) (hk : 1 ≤ k) (hkn : k ≤ zs.length) : IsMark zs k (ys.getD (zs.length - k) 0) := by
  have hl := hp.length_eq
  constructor
  · rw [← hp.countP_eq]
    have := countP_range ys (fun z => decide (ys.getD (zs.length - k) 0 ≤ z)) (zs.length - k) (by omega) (fun i h1 h2 => by
      by_cases e : zs.length - k = i
      · rw [e]; simp
      · exact decide_eq_true (hs _ _ (by omega) (by omega)))
    omega
  · rw [← hp.countP_eq]
    have := countP_upto ys (fun z => decide (ys.getD (zs.length - k) 0 < z)) (zs.length - k + 1) (by omega) (fun i h1 => by
      by_cases e : zs.length - k = i
      · rw [e]; simp
      · refine decide_eq_false ?_
        have := hs i (zs.length - k) (by omega) (by omega)
        omega)
    omega
theorem IsMark.le {zs : List Int} {k : Nat} {m m' : Int} (h : IsMark zs k m) (h' : IsMark zs k m') : m' ≤ m := by
  by_cases hlt : m' ≤ m
  · exact hlt
  · have h1 : zs.countP (fun z => decide (m' ≤ z)) ≤ zs.countP (fun z => decide (m < z)) := List.countP_mono_left fun z _ hz => by
      have := of_decide_eq_true hz
      exact decide_eq_true (by omega)
    have := h'.1
    have := h.2
    omega
theorem IsMark.uniq {zs : List Int} {k : Nat} {m m' : Int} (h : IsMark zs k m) (h' : IsMark zs k m') : m = m' := by
  have := h.le h'
  have := h'.le h
  omega
theorem IsMark.perm {zs zs' : List Int} {k : Nat} {m : Int} (h : IsMark zs' k m) (hp : zs'.Perm zs) : IsMark zs k m := ⟨by rw [← hp.countP_eq]; exact h.1, by rw [← hp.countP_eq]; exact h.2⟩
/-- Who stands at m or above, who above. -/
def atS (zs : List Int) (m : Int) : Nat → Nat := setTo fun i => decide (m ≤ zs.getD i 0)
def ovS (zs : List Int) (m : Int) : Nat → Nat := setTo fun i => decide (m < zs.getD i 0)
theorem reach_maj {c : Cfg} {zs : List Int} {m : Int} (h1 : 1 ≤ c.f) (h2 : c.f ≤ 3) (hl : (zs.length : Int) = 2 * c.f + 1) (h : IsMark zs (c.f + 1).toNat m) : majB c (atS zs m zs.length) = true ∧ majB c (ovS zs m zs.length) = false := by
  have e : (2 * c.f + 1).toNat = zs.length := by omega
  unfold majB atS ovS
  rw [e, setTo_cnt _ _ (by omega), setTo_cnt _ _ (by omega), range_getD zs (fun z => decide (m ≤ z)), range_getD zs (fun z => decide (m < z))]
  have a := h.1
  have b := h.2
  exact ⟨decide_eq_true (by omega), decide_eq_false (by omega)⟩
/-- The marks from the end on, k of them. -/
def turnL (zs : List Int) (k : Nat) : List Int := zs.reverse.take k
theorem turnL_succ {zs : List Int} {k : Nat} (h : k < zs.length) : turnL zs (k + 1) = turnL zs k ++ [zs.getD (zs.length - 1 - k) 0] := by
  unfold turnL
  rw [List.take_succ_eq_append_getElem (by simpa using h)]
  congr 2
  rw [List.getElem_reverse]
  simp [List.getD_eq_getElem?_getD, show zs.length - 1 - k < zs.length by omega]
theorem turnL_len {zs : List Int} {k : Nat} (h : k ≤ zs.length) : (turnL zs k).length = k := by simp [turnL]; omega
theorem turnL_perm (zs : List Int) : (turnL zs zs.length).Perm zs := by
  unfold turnL
  rw [List.take_of_length_le (by simp)]
  exact List.reverse_perm zs
end Go.Proofs.YtehmbcpgendkjaaDoor
