import Derived.Test.YtfapaehjmbekpaaDoorWRefHead
namespace Go.Proofs.YtfapaehjmbekpaaDoor
open Go.RowKit
set_option linter.unusedSimpArgs false
set_option linter.unusedVariables false
set_option maxRecDepth 100000 in
set_option maxHeartbeats 1600000 in
theorem rframe_ok (i : Nat) (p : Option Addr) (n c : Nat) (l : List Int) (w : World) (hi : i ≤ 2147483647) (hl : l.length = n) (hn : n ≤ 60000) (hr : RdB w p l) (hY : Byt l) :
    Calls Tryd.prog 11 #[.int .i64 i, .slice p n c] w fun e w' => ∃ v', e = .returned (.tuple #[v', .agg #[.slice none 0 0, .int .i64 0]]) ∧ OwnB w' w.heap.size v' (frm i l) ∧ Below w.heap.size w w' := by
  have h1 : ¬ ((i : Nat) : Int) < 0 := by omega
  have h2 : ¬ (2147483647 : Int) < (i : Nat) := by omega
  have h2' : ((i : Nat) : Int) ≤ 2147483647 := by omega
  have h3 : ¬ (60000 : Int) < (n : Nat) := by omega
  have h3' : ((n : Nat) : Int) ≤ 60000 := by omega
  have hb0 := Below.alloc_ (Below.refl w.heap.size w) (Obj.cells #[.slice none 0 0, .int .i64 0] 30)
  have HR := Lib.hid (hr.below hb0)
  have HP : Hid (frmP i l = be32 n ++ be32 i) := Lib.hid (by rw [← hl]; rfl)
  have HH : Hid (frm i l = frmP i l ++ le32 (crc (frmP i l)) ++ l ++ le32 (crc l)) := Lib.hid rfl
  have HF := Lib.hid (frmP_byt (i := i) (body := l) (by omega) (by omega))
  have HY := Lib.hid hY
  replace hl := Lib.hid hl
  clear hr hY hb0
  go_enter Tryd.func11, Tryd.ntmps11
  go_wp2_with fail
  refine (rbig4_at n _ (by omega)).mono ?_
  rintro e w1 ⟨v1, rfl, ho1, hb1⟩
  obtain ⟨p1, c1, rfl, hr1⟩ := ho1.form
  have hB1 := Lib.hid (show Below (w.heap.size + 1) (w.alloc (Obj.cells #[.slice none 0 0, .int .i64 0] 30)) w1 from hb1.mono (by simp))
  have HR1 := Lib.hid (HR.out.below hb1)
  rw [show (be32 n).length = 4 from rfl]
  replace hr1 := Lib.hid hr1
  clear ho1 hb1
  go_wp2_with fail
  refine (rbig4_at i _ (by omega)).mono ?_
  rintro e w2 ⟨v2, rfl, ho2, hb2⟩
  obtain ⟨p2, c2, rfl, hr2⟩ := ho2.form
  have hB2 := Lib.hid (hB1.out.trans (hb2.mono (by have h_ := hB1.out.size; simpa using h_)))
  have HR2 := Lib.hid (HR1.out.below hb2)
  have hr12 := Lib.hid (hr1.out.below hb2)
  rw [show (be32 i).length = 4 from rfl]
  replace hr2 := Lib.hid hr2
  clear ho2 hb2 hr1 hB1 HR1 HR
  go_wp2_with fail
  refine (rjoin_at p1 p2 4 c1 4 c2 _ _ _ rfl rfl (by omega) (by omega) hr12.out hr2.out).mono ?_
  rintro e w3 ⟨v3, rfl, ho3, hb3⟩
  rw [← HP.out] at ho3
  obtain ⟨p3, c3, rfl, hr3⟩ := ho3.form
  have hB3 := Lib.hid (hB2.out.trans (hb3.mono (by have h_ := hB2.out.size; simpa using h_)))
  have HR3 := Lib.hid (HR2.out.below hb3)
  rw [frmP_len]
  replace hr3 := Lib.hid hr3
  clear ho3 hb3 hr12 hr2 hB2 HR2
  go_wp2_with fail
  refine (rsum_at p3 8 c3 (frmP i l) _ (frmP_len _ _) (by unfold maxLen; omega) hr3.out HF.out).mono ?_
  rintro e w4 ⟨rfl, rfl⟩
  go_wp2_with fail
  refine (rlow_at _ _ (crc_lt _)).mono ?_
  rintro e w4 ⟨rfl, hr4, hb4⟩
  have hB4 := Lib.hid (hB3.out.trans (hb4.mono (by have h_ := hB3.out.size; simpa using h_)))
  have HR4 := Lib.hid (HR3.out.below hb4)
  have hr34 := Lib.hid (hr3.out.below hb4)
  replace hr4 := Lib.hid hr4
  clear hb4 hr3 hB3 HR3
  go_wp2_with fail
  refine (rjoin_at p3 _ 8 c3 4 4 _ _ _ (frmP_len _ _) rfl (by omega) (by omega) hr34.out hr4.out).mono ?_
  rintro e w5 ⟨v5, rfl, ho5, hb5⟩
  obtain ⟨p5, c5, rfl, hr5⟩ := ho5.form
  have hB5 := Lib.hid (hB4.out.trans (hb5.mono (by have h_ := hB4.out.size; simpa using h_)))
  have HR5 := Lib.hid (HR4.out.below hb5)
  have hl5 : (frmP i l ++ le32 (crc (frmP i l))).length = 12 := rfl
  rw [hl5]
  replace hr5 := Lib.hid hr5
  clear ho5 hb5 hr34 hr4 hB4 HR4
  go_wp2_with fail
  refine (rjoin_at p5 p 12 c5 n c _ l _ hl5 hl.out (by omega) (by omega) hr5.out HR5.out).mono ?_
  rintro e w6 ⟨v6, rfl, ho6, hb6⟩
  obtain ⟨p6, c6, rfl, hr6⟩ := ho6.form
  have hB6 := Lib.hid (hB5.out.trans (hb6.mono (by have h_ := hB5.out.size; simpa using h_)))
  have HR6 := Lib.hid (HR5.out.below hb6)
  have hl6 : (frmP i l ++ le32 (crc (frmP i l)) ++ l).length = 12 + n := by rw [List.length_append, hl5, hl.out]
  rw [hl6]
  replace hr6 := Lib.hid hr6
  clear ho6 hb6 hr5 hB5 HR5
  go_wp2_with fail
  refine (rsum_at p n c l _ hl.out (by unfold maxLen; omega) HR6.out HY.out).mono ?_
  rintro e w7 ⟨rfl, rfl⟩
  go_wp2_with fail
  refine (rlow_at _ _ (crc_lt _)).mono ?_
  rintro e w7 ⟨rfl, hr7, hb7⟩
  have hB7 := Lib.hid (hB6.out.trans (hb7.mono (by have h_ := hB6.out.size; simpa using h_)))
  have hr67 := Lib.hid (hr6.out.below hb7)
  replace hr7 := Lib.hid hr7
  clear hb7 hr6 hB6 HR6
  go_wp2_with fail
  refine (rjoin_at p6 _ (12 + n) c6 4 4 _ _ _ hl6 rfl (by omega) (by omega) hr67.out hr7.out).mono ?_
  rintro e w8 ⟨v8, rfl, ho8, hb8⟩
  rw [← HH.out] at ho8
  obtain ⟨q8, d8, rfl, hr8⟩ := ho8.form
  have hB8 := Lib.hid (hB7.out.trans (hb8.mono (by have h_ := hB7.out.size; simpa using h_)))
  have ho8' := Lib.hid (show OwnB w8 (w.heap.size + 1) _ _ from ho8.mono (by have h_ := hB7.out.size; simp at h_; omega))
  clear hb8 hB7 hr67 hr7 hr8 ho8
  go_wp2_with fail
  refine (rnone_at _).mono ?_
  rintro e w9 ⟨rfl, hb9⟩
  have hB9 := Lib.hid (hB8.out.trans (hb9.mono (by have h_ := hB8.out.size; simpa using h_)))
  have ho9 := Lib.hid (ho8'.out.below hb9)
  clear hb9 hB8 ho8'
  generalize (frm i l).length = fl at *
  have hc9 := (bcell hB9.out).1
  have hf9 := (bcell hB9.out).2
  have hz9 : w.heap.size < w9.heap.size := by have h_ := hB9.out.size; simp at h_; omega
  go_wp2
  refine bodyPost_ret (v := .tuple #[.slice q8 fl d8, .agg #[.slice none 0 0, .int .i64 0]]) (by simp [results, Tryd.results11, go_sem, *]) rfl ⟨_, rfl, ?_, ?_⟩
  · exact OwnB.mono (show OwnB _ (w.heap.size + 1) _ _ from ownsRow_setCell_below (ownsRow_setCell_below ho9.out (a := ⟨w.heap.size, 0, none⟩) (by simp) _) (a := ⟨w.heap.size, 1, none⟩) (by simp) _) (by omega)
  · exact (((((Below.refl _ w).alloc (Nat.le_refl _) _).trans (hB9.out.mono (by omega))).setCell (by simp) _).setCell (by simp) _)
/-- A refusal of the document's. -/
def RefuseR (c : Int) (w : World) (e : Ending) (w' : World) : Prop := ∃ s, e = .returned (.tuple #[.slice none 0 0, .agg #[s, .int .i64 c]]) ∧ LnkAt w' s [(walS, 0)] ∧ Below w.heap.size w w'
set_option maxRecDepth 100000 in
set_option maxHeartbeats 1600000 in
theorem rheader_file (f : Nat) (base : Int) (w : World) (h : f = 0 ∨ 4611686018427387904 < f) (hf : f < 18446744073709551616) : Calls Tryd.prog 6 #[.int .u64 f, .int .i64 base] w (RefuseR 1 w) := by
  rcases h with rfl | h
  · go_enter Tryd.func6, Tryd.ntmps6
    go_wp2_with fail
    refine (rno_at 1 _).mono ?_
    rintro e wa ⟨g, rfl, hgl, hs, hb_wa⟩
    simp at hgl
    have hc_wa := (bcell hb_wa).1
    have hf_wa := (bcell hb_wa).2
    have hz_wa_0 : w.heap.size < wa.heap.size := by have h_ := hb_wa.size; (try simp at h_); omega
    replace hs := Lib.hid hs
    go_wp2
    refine bodyPost_ret (v := .tuple #[.slice none 0 0, .agg #[.slice (some ⟨g, 0, none⟩) 1 1, .int .i64 1]]) (by simp [results, Tryd.results6, go_sem, *]) rfl ⟨_, rfl, ?_, ?_⟩
    · exact (hs.out.set _ fun g' n c e => by injection e with e1; injection e1 with e1; injection e1 with e1; simp; omega).set _ fun g' n c e => by injection e with e1; injection e1 with e1; injection e1 with e1; simp; omega
    · exact (by repeat (first | with_reducible refine Below.drew ?_ | with_reducible refine below_drewN ?_ | with_reducible refine Below.alloc_ ?_ _ | with_reducible refine Below.setCell ?_ (by first | (simp; done) | (simp; omega)) _ | with_reducible exact Below.refl _ _ | with_reducible exact hb_wa | with_reducible refine Below.on ?_ hb_wa ))
  · have h1 : ((f : Nat) : Int) ≠ 0 := by omega
    have h1' : (((f : Nat) : Int) == 0) = false := by simpa using h1
    have hf' : (4611686018427387904 : Int) < (f : Nat) := by omega
    have hff : ((f : Nat) : Int) < 18446744073709551616 := by omega
    clear h1
    go_enter Tryd.func6, Tryd.ntmps6
    go_wp2_with fail
    refine (rno_at 1 _).mono ?_
    rintro e wa ⟨g, rfl, hgl, hs, hb_wa⟩
    simp at hgl
    have hc_wa := (bcell hb_wa).1
    have hf_wa := (bcell hb_wa).2
    have hz_wa_0 : w.heap.size < wa.heap.size := by have h_ := hb_wa.size; (try simp at h_); omega
    replace hs := Lib.hid hs
    go_wp2
    refine bodyPost_ret (v := .tuple #[.slice none 0 0, .agg #[.slice (some ⟨g, 0, none⟩) 1 1, .int .i64 1]]) (by simp [results, Tryd.results6, go_sem, *]) rfl ⟨_, rfl, ?_, ?_⟩
    · exact (hs.out.set _ fun g' n c e => by injection e with e1; injection e1 with e1; injection e1 with e1; simp; omega).set _ fun g' n c e => by injection e with e1; injection e1 with e1; injection e1 with e1; simp; omega
    · exact (by repeat (first | with_reducible refine Below.drew ?_ | with_reducible refine below_drewN ?_ | with_reducible refine Below.alloc_ ?_ _ | with_reducible refine Below.setCell ?_ (by first | (simp; done) | (simp; omega)) _ | with_reducible exact Below.refl _ _ | with_reducible exact hb_wa | with_reducible refine Below.on ?_ hb_wa ))
end Go.Proofs.YtfapaehjmbekpaaDoor
