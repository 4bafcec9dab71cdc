/- The sum of bytes turns with each single byte: plain numbers; no program is in sight. -/
import Derived.Test.YtfapaehjmbekpaaDoorCrc
namespace Go.Proofs.YtfapaehjmbekpaaDoor
set_option linter.unusedSimpArgs false
set_option linter.unusedVariables false
theorem nibT_top : ∀ i : Fin 16, nibT i.val >>> 28 = i.val ∧ (nibT i.val >>> 4) >>> 24 = i.val := by decide
theorem and15_lt (a : Nat) : a &&& 15 < 16 := Nat.lt_of_le_of_lt Nat.and_le_right (by omega)
theorem shr_zero {a k : Nat} (h : a < 2 ^ k) : a >>> k = 0 := by rw [Nat.shiftRight_eq_div_pow]; exact Nat.div_eq_of_lt h
theorem nib_top {c x : Nat} (hc : c < 4294967296) : nib c x >>> 28 = (c ^^^ x) &&& 15 := by
  unfold nib
  rw [Nat.shiftRight_xor_distrib, (nibT_top ⟨(c ^^^ x) &&& 15, and15_lt _⟩).1, ← Nat.shiftRight_add, shr_zero (by omega : c < 2 ^ (4 + 28)), Nat.xor_zero]
theorem xor_cancel {a b c : Nat} (h : a ^^^ b = a ^^^ c) : b = c := by
  have := congrArg (fun t => a ^^^ t) h
  simpa [← Nat.xor_assoc] using this
theorem nib_eq {c c' x x' : Nat} (hc : c < 4294967296) (hc' : c' < 4294967296) (h : nib c x = nib c' x') : (c ^^^ x) &&& 15 = (c' ^^^ x') &&& 15 ∧ c >>> 4 = c' >>> 4 := by
  have h1 : (c ^^^ x) &&& 15 = (c' ^^^ x') &&& 15 := by rw [← nib_top hc, ← nib_top hc', h]
  refine ⟨h1, ?_⟩
  unfold nib at h
  rw [h1] at h
  exact xor_cancel h
theorem and15_mod (a : Nat) : a &&& 15 = a % 16 := by
  have := Nat.and_two_pow_sub_one_eq_mod a 4
  simpa using this
theorem low_eq {c c' : Nat} (h1 : c &&& 15 = c' &&& 15) (h2 : c >>> 4 = c' >>> 4) : c = c' := by
  rw [and15_mod, and15_mod] at h1
  rw [Nat.shiftRight_eq_div_pow, Nat.shiftRight_eq_div_pow] at h2
  omega
theorem and_xor15 (a b : Nat) : (a ^^^ b) &&& 15 = (a &&& 15) ^^^ (b &&& 15) := Nat.and_xor_distrib_right
theorem nib_inj {c c' x : Nat} (hc : c < 4294967296) (hc' : c' < 4294967296) (h : nib c x = nib c' x) : c = c' := by
  obtain ⟨h1, h2⟩ := nib_eq hc hc' h
  rw [and_xor15, and_xor15, Nat.xor_comm, Nat.xor_comm (c' &&& 15)] at h1
  exact low_eq (xor_cancel h1) h2
theorem crcStep_inj {c c' x : Nat} (hc : c < 4294967296) (hc' : c' < 4294967296) (h : crcStep c x = crcStep c' x) : c = c' :=
  nib_inj hc hc' (nib_inj (nib_lt hc) (nib_lt hc') h)
theorem crcStep_byte {c x x' : Nat} (hc : c < 4294967296) (hx : x < 256) (hx' : x' < 256) (h : crcStep c x = crcStep c x') : x = x' := by
  unfold crcStep at h
  obtain ⟨h1, h2⟩ := nib_eq (nib_lt hc) (nib_lt hc) h
  have h3 : (c ^^^ x) &&& 15 = (c ^^^ x') &&& 15 := by
    have e : (nib c x >>> 4) >>> 24 = (nib c x' >>> 4) >>> 24 := congrArg (· >>> 24) h2
    rw [← Nat.shiftRight_add, ← Nat.shiftRight_add] at e
    rw [nib_top hc, nib_top hc] at e
    exact e
  have h4 : x &&& 15 = x' &&& 15 := by
    rw [and_xor15, and_xor15] at h3
    exact xor_cancel h3
  have h5 : nib c x = nib c x' := by unfold nib; rw [h3]
  rw [h5, and_xor15, and_xor15] at h1
  have h6 : (x >>> 4) &&& 15 = (x' >>> 4) &&& 15 := xor_cancel h1
  rw [and15_mod, and15_mod] at h4 h6
  rw [Nat.shiftRight_eq_div_pow, Nat.shiftRight_eq_div_pow] at h6
  omega
theorem crcFrom_inj {l : List Int} : ∀ {c c' : Nat}, c < 4294967296 → c' < 4294967296 → crcFrom c l = crcFrom c' l → c = c' := by
  induction l with
  | nil => intro c c' _ _ h; exact h
  | cons x r ih => intro c c' hc hc' h; exact crcStep_inj hc hc' (ih (crcStep_lt hc) (crcStep_lt hc') h)
theorem crc_mid {a r : List Int} {x y : Int} (h1 : 0 ≤ x ∧ x < 256) (h2 : 0 ≤ y ∧ y < 256) (hne : y ≠ x) : crc (a ++ y :: r) ≠ crc (a ++ x :: r) := by
  intro h
  have h3 : crcFrom 4294967295 (a ++ y :: r) = crcFrom 4294967295 (a ++ x :: r) := by
    unfold crc at h
    have := crcFrom_lt (l := a ++ y :: r) (c := 4294967295) (by omega)
    have := crcFrom_lt (l := a ++ x :: r) (c := 4294967295) (by omega)
    omega
  rw [crcFrom_append, crcFrom_append] at h3
  have hc := crcFrom_lt (l := a) (c := 4294967295) (by omega)
  have h4 := crcFrom_inj (l := r) (crcStep_lt (x := y.toNat) hc) (crcStep_lt (x := x.toNat) hc) h3
  have := crcStep_byte hc (by omega) (by omega) h4
  omega
/-- One byte turned: another sum. -/
theorem crc_one {l : List Int} {j : Nat} {y : Int} (hj : j < l.length) (h1 : 0 ≤ l[j] ∧ l[j] < 256) (h2 : 0 ≤ y ∧ y < 256) (hne : y ≠ l[j]) : crc (l.set j y) ≠ crc l := by
  have e1 : l.set j y = l.take j ++ y :: l.drop (j + 1) := List.set_eq_take_append_cons_drop ▸ by simp [hj]
  have e2 : l = l.take j ++ l[j] :: l.drop (j + 1) := by simp
  rw [e1]
  intro h
  exact crc_mid h1 h2 hne (h.trans (congrArg crc e2))
end Go.Proofs.YtfapaehjmbekpaaDoor
