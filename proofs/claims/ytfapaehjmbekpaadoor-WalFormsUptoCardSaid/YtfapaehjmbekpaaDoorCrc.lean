/- The remainder CRC-32C of bytes, by half bytes and bit by bit: plain numbers; no program is in sight. -/
import Derived.WalkKit
namespace Go.Proofs.YtfapaehjmbekpaaDoor
set_option linter.unusedSimpArgs false
set_option linter.unusedVariables false
/-- The remainders of the sixteen half bytes. -/
def nibL : List Nat := [0, 274646895, 549293790, 820201905, 1098587580, 1361435347, 1640403810, 1905808397, 2197175160, 2460548119, 2722870694, 2987750089, 3280807620, 3553878443, 3811616794, 4084100981]
def nibT (i : Nat) : Nat := nibL.getD i 0
theorem nibT_lt (i : Nat) : nibT i < 4294967296 := by
  by_cases h : i < 16
  · have : ∀ j : Fin 16, nibT j.val < 4294967296 := by decide
    exact this ⟨i, h⟩
  · unfold nibT
    rw [List.getD_eq_getElem?_getD, List.getElem?_eq_none (by simp [nibL]; omega)]
    decide
/-- One half byte. -/
def nib (c x : Nat) : Nat := nibT ((c ^^^ x) &&& 15) ^^^ (c >>> 4)
theorem xor_lt32 {a b : Nat} (ha : a < 4294967296) (hb : b < 4294967296) : a ^^^ b < 4294967296 := Nat.xor_lt_two_pow (n := 32) (by omega) (by omega)
theorem shr_lt32 {a : Nat} (k : Nat) (ha : a < 4294967296) : a >>> k < 4294967296 := by
  rw [Nat.shiftRight_eq_div_pow]; exact Nat.lt_of_le_of_lt (Nat.div_le_self _ _) ha
theorem nib_lt {c x : Nat} (hc : c < 4294967296) : nib c x < 4294967296 := xor_lt32 (nibT_lt _) (shr_lt32 4 hc)
/-- One byte. -/
def crcStep (c x : Nat) : Nat := nib (nib c x) (x >>> 4)
theorem crcStep_lt {c x : Nat} (hc : c < 4294967296) : crcStep c x < 4294967296 := nib_lt (nib_lt hc)
def crcFrom (c : Nat) (l : List Int) : Nat := l.foldl (fun c x => crcStep c x.toNat) c
theorem crcFrom_lt {l : List Int} : ∀ {c : Nat}, c < 4294967296 → crcFrom c l < 4294967296 := by
  induction l with
  | nil => intro c h; exact h
  | cons x r ih => intro c h; exact ih (crcStep_lt h)
theorem crcFrom_append (c : Nat) (a b : List Int) : crcFrom c (a ++ b) = crcFrom (crcFrom c a) b := List.foldl_append
theorem crcFrom_take {c k : Nat} {l : List Int} (h : k < l.length) : crcFrom c (l.take (k + 1)) = crcStep (crcFrom c (l.take k)) (l[k]).toNat := by
  rw [List.take_succ_eq_append_getElem h, crcFrom_append]; rfl
theorem not_xor {t : Nat} (h : t < 4294967296) : 4294967295 ^^^ t = 4294967295 - t := by
  have h1 : (BitVec.allOnes 32 ^^^ BitVec.ofNat 32 t).toNat = (~~~ (BitVec.ofNat 32 t)).toNat := by rw [BitVec.allOnes_xor]
  rw [BitVec.toNat_xor, BitVec.toNat_not, BitVec.toNat_ofNat, BitVec.toNat_allOnes, Nat.mod_eq_of_lt (by omega)] at h1
  simpa using h1
/-- The sum. -/
def crc (l : List Int) : Nat := 4294967295 - crcFrom 4294967295 l
theorem crc_lt (l : List Int) : crc l < 4294967296 := by unfold crc; omega
end Go.Proofs.YtfapaehjmbekpaaDoor
