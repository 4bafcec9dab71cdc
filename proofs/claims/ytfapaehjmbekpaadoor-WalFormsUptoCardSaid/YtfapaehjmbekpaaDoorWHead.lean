import Derived.Test.YtfapaehjmbekpaaDoorWOwn
import Derived.Test.YtfapaehjmbekpaaDoorErr
namespace Go.Proofs.YtfapaehjmbekpaaDoor
open Go.RowKit
set_option linter.unusedSimpArgs false
set_option linter.unusedVariables false
theorem be32_byt {x : Nat} (h : x < 4294967296) : Byt (be32 x) := fun j hj => by
  have h4 : j < 4 := hj
  have : j = 0 ∨ j = 1 ∨ j = 2 ∨ j = 3 := by omega
  rcases this with rfl | rfl | rfl | rfl <;> simp [be32] <;> omega
theorem le32_byt {x : Nat} (h : x < 4294967296) : Byt (le32 x) := fun j hj => by
  have h4 : j < 4 := hj
  have : j = 0 ∨ j = 1 ∨ j = 2 ∨ j = 3 := by omega
  rcases this with rfl | rfl | rfl | rfl <;> simp [le32] <;> omega
theorem Byt.append {a b : List Int} (h : Byt a) (k : Byt b) : Byt (a ++ b) := fun j hj => by
  by_cases hl : j < a.length
  · rw [List.getElem_append_left hl]; exact h j hl
  · rw [List.getElem_append_right (by omega)]; exact k _ _
def hdrP (file base : Nat) : List Int := [81, 76, 79, 71, 1] ++ be32 (file / 4294967296) ++ be32 (file % 4294967296) ++ be32 base
def hdr (file base : Nat) : List Int := hdrP file base ++ le32 (crc (hdrP file base))
theorem hdrP_byt {file base : Nat} (h : file < 18446744073709551616) (hb : base < 4294967296) : Byt (hdrP file base) := by
  have h0 : Byt [81, 76, 79, 71, 1] := fun j hj => by
    have h4 : j < 5 := hj
    have : j = 0 ∨ j = 1 ∨ j = 2 ∨ j = 3 ∨ j = 4 := by omega
    rcases this with rfl | rfl | rfl | rfl | rfl <;> simp
  exact ((h0.append (be32_byt (by omega))).append (be32_byt (Nat.mod_lt _ (by omega)))).append (be32_byt hb)
theorem hdrP_len (file base : Nat) : (hdrP file base).length = 17 := rfl
theorem hdr_len (file base : Nat) : (hdr file base).length = 21 := rfl
def frmP (i : Nat) (body : List Int) : List Int := be32 body.length ++ be32 i
def frm (i : Nat) (body : List Int) : List Int := frmP i body ++ le32 (crc (frmP i body)) ++ body ++ le32 (crc body)
theorem frmP_len (i : Nat) (body : List Int) : (frmP i body).length = 8 := rfl
theorem frm_len (i : Nat) (body : List Int) : (frm i body).length = body.length + 16 := by
  simp [frm, frmP_len, le32]; omega
theorem frmP_byt {i : Nat} {body : List Int} (h : i < 4294967296) (hb : body.length < 4294967296) : Byt (frmP i body) := (be32_byt hb).append (be32_byt h)
def walS : ByteArray := ⟨#[119, 97, 108]⟩
theorem ownB_lit (w : World) (l : List Int) (hl : l.length ≤ 100) : OwnB (w.alloc (.cells (l.map (Value.int .u8)).toArray 5)) w.heap.size (.slice (some ⟨w.heap.size, 0, none⟩) l.length l.length) l :=
  by
    have h := World.ownsRow_lit (base := w.heap.size) (size := 1) (e := 5) w (l.map (Value.int .u8)).toArray l.length (Nat.le_refl _) (by unfold maxLen; omega) (by simp)
    simpa [OwnB] using h
theorem big32_is (B : Nat) (v : Value) (l : List Int) (X : Int) (x : Nat) (w : World) (hX : X = (x : Nat)) (hx : x < 4294967296) (ho : OwnB w B v l) (hB : B ≤ w.heap.size) (hl : l.length ≤ 1000000000000) :
    Calls Tryd.prog 20 #[v, .int .u32 X] w fun e w' => ∃ v', e = .returned v' ∧ OwnB w' B v' (l ++ be32 x) ∧ Below B w w' := hX ▸ big32_at B v l x w hx ho hB hl
theorem sum_own (B : Nat) (v : Value) (l : List Int) (w : World) (ho : OwnB w B v l) (hm : l.length ≤ maxLen) (hB : Byt l) (hT : Nib w) :
    Calls Tryd.prog 22 #[v] w fun e w' => e = .returned (.int .u32 (crc l : Nat)) ∧ w = w' := by
  obtain ⟨p, c, rfl, hr⟩ := ho.form
  exact sum_at p l.length c l w rfl hm hr hB hT
set_option maxRecDepth 100000 in
set_option maxHeartbeats 1600000 in
theorem header_ok (f : Nat) (base : Nat) (w : World) (h0 : f ≠ 0) (hf : f ≤ 4611686018427387904) (hb : base ≤ 64) (hT : Nib w) :
    Calls Tryd.prog 5 #[.int .u64 f, .int .i64 base] w fun e w' => ∃ v', e = .returned (.tuple #[v', .nilIface]) ∧ OwnB w' w.heap.size v' (hdr f base) ∧ Below w.heap.size w w' := by
  have h1 : ((f : Nat) : Int) ≠ 0 := by omega
  have h1' : (((f : Nat) : Int) == 0) = false := by simpa using h1
  have h1d : decide (((f : Nat) : Int) = 0) = false := decide_eq_false h1
  have hf' : ¬ (4611686018427387904 : Int) < (f : Nat) := by omega
  have hb1 : ¬ ((base : Nat) : Int) < 0 := by omega
  have hb2 : ¬ (64 : Int) < (base : Nat) := by omega
  have hbb : ((base : Nat) : Int) ≤ 64 := by omega
  have hff : ((f : Nat) : Int) ≤ 4611686018427387904 := by omega
  have HT := Lib.hid hT
  have hlit := Lib.hid (show OwnB (w.alloc (.cells #[.int .u8 81, .int .u8 76, .int .u8 79, .int .u8 71, .int .u8 1] 5)) w.heap.size (.slice (some ⟨w.heap.size, 0, none⟩) 5 5) [81, 76, 79, 71, 1] from ownB_lit w [81, 76, 79, 71, 1] (by decide))
  have HP : Hid (hdrP f base = [81, 76, 79, 71, 1] ++ be32 (f / 4294967296) ++ be32 (f % 4294967296) ++ be32 base) := Lib.hid rfl
  have HH : Hid (hdr f base = hdrP f base ++ le32 (crc (hdrP f base))) := Lib.hid rfl
  have HY := Lib.hid (hdrP_byt (file := f) (base := base) (by omega) (by omega))
  clear h0 hT h1
  go_enter Tryd.func5, Tryd.ntmps5
  go_wp2_with fail
  refine (big32_is w.heap.size _ _ _ (f / 4294967296) _ (by simp) (by omega) hlit.out (by simp) (by simp)).mono ?_
  rintro e w1 ⟨v1, rfl, ho1, hb1⟩
  have hs1 := hb1.size
  have hw1 := Lib.hid (((Below.refl _ w).alloc (Nat.le_refl _) _).trans hb1)
  replace ho1 := Lib.hid ho1
  clear hb1
  go_wp2_with fail
  refine (big32_is w.heap.size _ _ _ (f % 4294967296) _ (by simp) (by omega) ho1.out hw1.out.size (by simp [be32])).mono ?_
  rintro e w2 ⟨v2, rfl, ho2, hb2'⟩
  have hw2 := Lib.hid (hw1.out.trans hb2')
  replace ho2 := Lib.hid ho2
  clear hb2'
  go_wp2_with fail
  refine (big32_is w.heap.size _ _ _ base _ (by simp) (by omega) ho2.out hw2.out.size (by simp [be32])).mono ?_
  rintro e w3 ⟨v3, rfl, ho3, hb3⟩
  have hw3 := Lib.hid (hw2.out.trans hb3)
  rw [← HP.out] at ho3
  replace ho3 := Lib.hid ho3
  clear hb3
  go_wp2_with fail
  refine (sum_own _ _ _ _ ho3.out (by rw [hdrP_len]; unfold maxLen; omega) HY.out (HT.out.below (Nat.le_refl _) hw3.out)).mono ?_
  rintro e w4 ⟨rfl, rfl⟩
  go_wp2_with fail
  refine (little32_at w.heap.size _ _ _ _ (crc_lt _) ho3.out hw3.out.size (by rw [hdrP_len]; omega)).mono ?_
  rintro e w4 ⟨v4, rfl, ho4, hb4⟩
  have hw4 := Lib.hid (hw3.out.trans hb4)
  rw [← HH.out] at ho4
  replace ho4 := Lib.hid ho4
  clear hb4
  go_wp2
  go_ret2
  exact ⟨v4, rfl, ho4.out, hw4.out⟩
end Go.Proofs.YtfapaehjmbekpaaDoor
