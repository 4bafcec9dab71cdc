/- Sets of replicas as numbers of 32 bits: which bits stand, how many, the lowest; no program is in sight. -/
import Derived.Lib.TrailingZeros
import Derived.WalkKit
namespace Go.Proofs.YtehmbcpgendkjaaDoor
open Go.RowKit
set_option linter.unusedSimpArgs false

/-- The members of a set, rising. -/
def elems (s : Nat) : List Nat := (List.range 32).filter s.testBit
theorem filter_first (f : Nat → Bool) (k : Nat) (hlow : ∀ i, i < k → f i = false) (hk : f k = true) : ∀ n, k < n → (List.range n).filter f = k :: (List.range n).filter (fun i => f i && decide (i ≠ k)) := by
  intro n
  induction n with
  | zero => intro h; omega
  | succ n ih =>
    intro h
    rw [List.range_succ, List.filter_append, List.filter_append]
    by_cases e : k = n
    · subst e
      have h1 : (List.range k).filter f = [] := by
        rw [List.filter_eq_nil_iff]; intro a ha; simp [hlow a (List.mem_range.1 ha)]
      have h2 : (List.range k).filter (fun i => f i && decide (i ≠ k)) = [] := by
        rw [List.filter_eq_nil_iff]; intro a ha; simp [hlow a (List.mem_range.1 ha)]
      rw [h1, h2]
      simp [hk]
    · rw [ih (by omega)]
      have hne : ¬ n = k := by omega
      simp [List.filter_cons, hne]
theorem low_form {s : Nat} (h0 : s ≠ 0) (h : s < 4294967296) : ∃ m, s = 2 ^ Lib.ctz 32 s * (2 * m + 1) ∧ Lib.ctz 32 s < 32 := by
  obtain ⟨m, hm, hk⟩ := Lib.ctzFrom_spec 32 s (by omega) (by simpa using h)
  have e : Lib.ctz 32 s = Lib.ctzFrom 32 s := by simp [Lib.ctz, h0]
  rw [e]
  exact ⟨m, hm, hk⟩
theorem and_pred {s : Nat} (h0 : s ≠ 0) (h : s < 4294967296) : (∀ i, i < Lib.ctz 32 s → s.testBit i = false) ∧ s.testBit (Lib.ctz 32 s) = true ∧ ∀ i, (s &&& (s - 1)).testBit i = (s.testBit i && decide (i ≠ Lib.ctz 32 s)) := by
  obtain ⟨m, hm, hk⟩ := low_form h0 h
  generalize Lib.ctz 32 s = k at *
  have hp : 0 < 2 ^ k := Nat.two_pow_pos k
  have hs1 : s - 1 = 2 ^ k * (2 * m) + (2 ^ k - 1) := by rw [hm, Nat.mul_add]; omega
  have t : ∀ i, s.testBit i = if i < k then false else (2 * m + 1).testBit (i - k) := fun i => by
    have := Nat.testBit_two_pow_mul_add (2 * m + 1) hp i
    simp only [Nat.add_zero] at this
    rw [hm, this]
    split <;> simp
  have u : ∀ i, (s - 1).testBit i = if i < k then true else (2 * m).testBit (i - k) := fun i => by
    rw [hs1, Nat.testBit_two_pow_mul_add (2 * m) (by omega) i]
    split
    · rename_i hi; rw [Nat.testBit_two_pow_sub_one]; simpa using hi
    · rfl
  refine ⟨fun i hi => by rw [t, if_pos hi], by rw [t, if_neg (by omega)]; simp, fun i => ?_⟩
  rw [Nat.testBit_and, t, u]
  by_cases h1 : i < k
  · simp [h1]
  · simp only [if_neg h1]
    by_cases h2 : i = k
    · subst h2; simp
    · obtain ⟨j, hj⟩ : ∃ j, i - k = j + 1 := ⟨i - k - 1, by omega⟩
      rw [hj, Nat.testBit_succ, Nat.testBit_succ]
      have e1 : (2 * m + 1) / 2 = m := by omega
      have e2 : 2 * m / 2 = m := by omega
      rw [e1, e2]
      simp [h2]
theorem elems_step {s : Nat} (h0 : s ≠ 0) (h : s < 4294967296) : elems s = Lib.ctz 32 s :: elems (s &&& (s - 1)) := by
  obtain ⟨m, _, hk⟩ := low_form h0 h
  obtain ⟨h1, h2, h3⟩ := and_pred h0 h
  unfold elems
  rw [filter_first s.testBit _ h1 h2 32 hk]
  congr 1
  exact List.filter_congr fun i _ => (h3 i).symm
theorem elems_zero : elems 0 = [] := by simp [elems]
theorem elems_len (s : Nat) : (elems s).length ≤ 32 := by
  have := List.length_filter_le s.testBit (List.range 32)
  simpa [elems] using this
theorem mem_elems {s i : Nat} : i ∈ elems s ↔ i < 32 ∧ s.testBit i = true := by simp [elems]
theorem and_lt {s : Nat} (t : Nat) (h : s < 4294967296) : s &&& t < 4294967296 := Nat.lt_of_le_of_lt Nat.and_le_left h
theorem elems_nil {s : Nat} (h : s < 4294967296) (he : elems s = []) : s = 0 := by
  by_cases h0 : s = 0
  · exact h0
  · rw [elems_step h0 h] at he; cases he
theorem testBit_hi {s i : Nat} (h : s < 4294967296) (hi : 32 ≤ i) : s.testBit i = false := Nat.testBit_lt_two_pow (Nat.lt_of_lt_of_le (show s < 2 ^ 32 by simpa using h) (Nat.pow_le_pow_right (by decide) hi))
/-- A set is what its bits are. -/
theorem set_ext {s t : Nat} (hs : s < 4294967296) (ht : t < 4294967296) (h : ∀ i, i < 32 → s.testBit i = t.testBit i) : s = t := by
  refine Nat.eq_of_testBit_eq fun i => ?_
  by_cases hi : i < 32
  · exact h i hi
  · rw [testBit_hi hs (by omega), testBit_hi ht (by omega)]
/-- The set with one more. -/
def withB (s : Nat) (n : Int) : Nat := if 0 ≤ n ∧ n ≤ 31 then s ||| 2 ^ n.toNat else s
def hasB (s : Nat) (n : Int) : Bool := decide (0 ≤ n ∧ n ≤ 31) && s.testBit n.toNat
def cardB (s : Nat) : Nat := (elems s).length
theorem withB_lt {s : Nat} (n : Int) (h : s < 4294967296) : withB s n < 4294967296 := by
  unfold withB
  split
  · rename_i hn
    have h1 : s < 2 ^ 32 := by simpa using h
    have h2 : 2 ^ n.toNat < 2 ^ 32 := Nat.pow_lt_pow_right (by decide) (by omega)
    have := Nat.or_lt_two_pow h1 h2
    simpa using this
  · exact h
theorem withB_bit (s : Nat) (n : Int) (i : Nat) : (withB s n).testBit i = (s.testBit i || decide (0 ≤ n ∧ n ≤ 31 ∧ (i : Int) = n)) := by
  unfold withB
  split
  · rename_i hn
    rw [Nat.testBit_or, Nat.testBit_two_pow]
    congr 1
    rw [decide_eq_decide]; omega
  · rename_i hn
    have : decide (0 ≤ n ∧ n ≤ 31 ∧ (i : Int) = n) = false := decide_eq_false (by omega)
    rw [this, Bool.or_false]
theorem cardB_le (s : Nat) : cardB s ≤ 32 := elems_len s
theorem cardB_filter (s : Nat) : cardB s = ((List.range 32).filter s.testBit).length := rfl
end Go.Proofs.YtehmbcpgendkjaaDoor
