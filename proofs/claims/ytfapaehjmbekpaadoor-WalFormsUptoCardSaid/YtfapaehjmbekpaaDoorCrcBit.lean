/- The sum bit by bit is the sum by half bytes: plain numbers; no program is in sight. -/
import Derived.Test.YtfapaehjmbekpaaDoorCrcInj
namespace Go.Proofs.YtfapaehjmbekpaaDoor
set_option linter.unusedSimpArgs false
set_option linter.unusedVariables false
/-- One bit. -/
def bitS (c b : Nat) : Nat := if (c &&& 1) ^^^ b = 1 then (c >>> 1) ^^^ 2197175160 else c >>> 1
/-- k bits of a byte. -/
def bitsTo (c x : Nat) : Nat → Nat
  | 0 => c
  | k + 1 => bitS (bitsTo c x k) ((x >>> k) &&& 1)
theorem bitS_lt {c b : Nat} (h : c < 4294967296) : bitS c b < 4294967296 := by
  unfold bitS
  have := shr_lt32 1 h
  split
  · exact xor_lt32 this (by omega)
  · exact this
theorem bitsTo_lt {c x : Nat} (h : c < 4294967296) : ∀ k, bitsTo c x k < 4294967296
  | 0 => h
  | k + 1 => bitS_lt (bitsTo_lt h k)
theorem bitS_split (m l b : Nat) : bitS ((2 * m) ^^^ l) b = m ^^^ bitS l b := by
  have h1 : ((2 * m) ^^^ l) &&& 1 = l &&& 1 := by
    rw [Nat.and_xor_distrib_right]
    have : 2 * m &&& 1 = 0 := by rw [Nat.and_one_is_mod]; omega
    rw [this, Nat.zero_xor]
  have h2 : ((2 * m) ^^^ l) >>> 1 = m ^^^ (l >>> 1) := by
    rw [Nat.shiftRight_xor_distrib]
    congr 1
    rw [Nat.shiftRight_eq_div_pow]; omega
  unfold bitS
  rw [h1, h2]
  split
  · rw [Nat.xor_assoc]
  · rfl
theorem bitsTo4_low : ∀ l : Fin 16, ∀ x : Fin 16, bitsTo l.val x.val 4 = nibT ((l.val ^^^ x.val) &&& 15) := by decide +kernel
theorem split16 (c : Nat) : c = (16 * (c >>> 4)) ^^^ (c &&& 15) := by
  have h : 16 * (c >>> 4) ||| (c &&& 15) = (16 * (c >>> 4)) ^^^ (c &&& 15) := by
    refine Nat.eq_of_testBit_eq fun i => ?_
    rw [Nat.testBit_or, Nat.testBit_xor]
    by_cases hi : i < 4
    · have : (16 * (c >>> 4)).testBit i = false := by
        have := Nat.testBit_two_pow_mul (i := 4) (a := c >>> 4) (j := i)
        rw [show (2 : Nat) ^ 4 = 16 from rfl] at this
        rw [this]
        simp; omega
      rw [this]; simp
    · have : (c &&& 15).testBit i = false := by
        rw [Nat.testBit_and, show (15 : Nat) = 2 ^ 4 - 1 from rfl, Nat.testBit_two_pow_sub_one]
        simp; omega
      rw [this]; simp
  rw [← h]
  have := Nat.two_pow_add_eq_or_of_lt (i := 4) (b := c &&& 15) (and15_lt c) (c >>> 4)
  rw [show (2 : Nat) ^ 4 = 16 from rfl] at this
  rw [← this, and15_mod, Nat.shiftRight_eq_div_pow]
  omega
theorem bitsTo_split (m l x : Nat) : bitsTo ((16 * m) ^^^ l) x 4 = m ^^^ bitsTo l x 4 := by
  simp only [bitsTo]
  rw [show 16 * m = 2 * (8 * m) by omega, bitS_split, show 8 * m = 2 * (4 * m) by omega, bitS_split, show 4 * m = 2 * (2 * m) by omega, bitS_split, bitS_split]
theorem bitsTo_low4 (c x : Nat) : bitsTo c x 4 = bitsTo c (x &&& 15) 4 := by
  have h : ∀ k, k < 4 → ((x &&& 15) >>> k) &&& 1 = (x >>> k) &&& 1 := fun k hk => by
    rw [and15_mod, Nat.and_one_is_mod, Nat.and_one_is_mod, Nat.shiftRight_eq_div_pow, Nat.shiftRight_eq_div_pow]
    have : k = 0 ∨ k = 1 ∨ k = 2 ∨ k = 3 := by omega
    rcases this with rfl | rfl | rfl | rfl <;> omega
  simp only [bitsTo]
  rw [h 0 (by omega), h 1 (by omega), h 2 (by omega), h 3 (by omega)]
theorem bits4 (c x : Nat) : bitsTo c x 4 = nib c x := by
  rw [bitsTo_low4]
  have e := bitsTo_split (c >>> 4) (c &&& 15) (x &&& 15)
  rw [← split16] at e
  rw [e, bitsTo4_low ⟨c &&& 15, and15_lt _⟩ ⟨x &&& 15, and15_lt _⟩]
  unfold nib
  rw [Nat.xor_comm]
  congr 2
  rw [and_xor15, and_xor15]
  simp [Nat.and_assoc]
theorem bitsTo_add (c x a : Nat) : ∀ k, bitsTo c x (a + k) = bitsTo (bitsTo c x a) (x >>> a) k
  | 0 => rfl
  | k + 1 => by
    rw [← Nat.add_assoc]
    simp only [bitsTo]
    rw [bitsTo_add c x a k, Nat.shiftRight_add]
/-- Eight bits are one byte. -/
theorem bits8 (c x : Nat) : bitsTo c x 8 = crcStep c x := by
  have := bitsTo_add c x 4 4
  rw [show 4 + 4 = 8 from rfl] at this
  rw [this, bits4, bits4]
  rfl
end Go.Proofs.YtfapaehjmbekpaaDoor
