import Derived.Test.YtfapaehjmbekpaaDoorWBig
import Derived.Test.YtfapaehjmbekpaaDoorSame
namespace Go.Proofs.YtfapaehjmbekpaaDoor
open Go.RowKit
set_option linter.unusedSimpArgs false
set_option linter.unusedVariables false
set_option maxRecDepth 100000 in
theorem rnone_at (w : World) : Calls Tryd.prog 28 #[] w fun e w' => e = .returned (.agg #[.slice none 0 0, .int .i64 0]) ∧ Below w.heap.size w w' := by
  go_enter Tryd.func28, Tryd.ntmps28
  go_wp2
  refine bodyPost_ret (v := .agg #[.slice none 0 0, .int .i64 0]) (by simp [results, Tryd.results28, go_sem]) rfl ⟨rfl, ?_⟩
  exact (by repeat (first | with_reducible refine Below.drew ?_ | with_reducible refine below_drewN ?_ | with_reducible refine Below.alloc_ ?_ _ | with_reducible refine Below.setCell ?_ (by first | (simp; done) | (simp; omega)) _ | with_reducible exact Below.refl _ _ ))
theorem LnkAt.set {w : World} {s : Value} {l : List (ByteArray × Int)} {a : Addr} (v : Value) (h : LnkAt w s l) (hne : ∀ g n c, s = .slice (some ⟨g, 0, none⟩) n c → g ≠ a.block) : LnkAt (w.setCell a v) s l := by
  rcases h with h | ⟨g, cap, h1, h2, h3⟩
  · exact .inl h
  · refine .inr ⟨g, cap, h1, by simpa using h2, fun i u hu => ?_⟩
    rw [World.cell?_setCell_other _ _ _ _ (fun e => hne g _ _ h1 (by have h_ := congrArg Addr.block e; first | exact h_ | exact h_.symm))]
    exact h3 i u hu
set_option maxRecDepth 100000 in
theorem rnew_at (c : Int) (w : World) : Calls Tryd.prog 37 #[.string walS, .int .i64 0, .int .i64 c] w fun e w' => ∃ g, e = .returned (.agg #[.slice (some ⟨g, 0, none⟩) 1 1, .int .i64 c]) ∧ w.heap.size ≤ g ∧ LnkAt w' (.slice (some ⟨g, 0, none⟩) 1 1) [(walS, 0)] ∧ Below w.heap.size w w' := by
  go_enter Tryd.func37, Tryd.ntmps37
  go_wp2
  refine bodyPost_ret (v := .agg #[.slice (some ⟨w.heap.size + 1, 0, none⟩) 1 1, .int .i64 c]) (by simp [results, Tryd.results37, go_sem]) rfl ⟨_, rfl, by omega, ?_, ?_⟩
  · refine .inr ⟨w.heap.size + 1, 1, rfl, by simp, fun i v hv => ?_⟩
    have : i = 0 ∨ i = 1 := by
      have h1 := (List.getElem?_eq_some_iff.1 hv).1
      simp [lnk] at h1
      omega
    rcases this with rfl | rfl <;> simp [lnk] at hv <;> subst hv <;> (simp [*, World.cell?_setCell_same', World.cell?_setCell_other, World.cell?_alloc_some, frozen_alloc_lt'])
  · exact (by repeat (first | with_reducible refine Below.drew ?_ | with_reducible refine below_drewN ?_ | with_reducible refine Below.alloc_ ?_ _ | with_reducible refine Below.setCell ?_ (by first | (simp; done) | (simp; omega)) _ | with_reducible exact Below.refl _ _ ))
set_option maxRecDepth 100000 in
theorem rno_at (c : Int) (w : World) : Calls Tryd.prog 23 #[.int .i64 c, .int .i64 0] w fun e w' => ∃ g, e = .returned (.agg #[.slice (some ⟨g, 0, none⟩) 1 1, .int .i64 c]) ∧ w.heap.size ≤ g ∧ LnkAt w' (.slice (some ⟨g, 0, none⟩) 1 1) [(walS, 0)] ∧ Below w.heap.size w w' := by
  have N := fun w => Lib.hid (rnew_at c w)
  go_enter Tryd.func23, Tryd.ntmps23
  go_wp2_with fail
  refine (N _).out.mono ?_
  rintro e wa ⟨g, rfl, hgl, hs, hb_wa⟩
  simp at hgl
  have hc_wa := (bcell hb_wa).1
  have hf_wa := (bcell hb_wa).2
  have hz_wa_0 : w.heap.size < wa.heap.size := by have h_ := hb_wa.size; (try simp at h_); omega
  replace hs := Lib.hid hs
  go_wp2
  refine bodyPost_ret (v := .agg #[.slice (some ⟨g, 0, none⟩) 1 1, .int .i64 c]) (by simp [results, Tryd.results23, go_sem, *]) rfl ⟨_, rfl, by omega, ?_, ?_⟩
  · exact (hs.out.set _ fun g' n c e => by injection e with e1; injection e1 with e1; injection e1 with e1; simp; omega).set _ fun g' n c e => by injection e with e1; injection e1 with e1; injection e1 with e1; simp; omega
  · exact (by repeat (first | with_reducible refine Below.drew ?_ | with_reducible refine below_drewN ?_ | with_reducible refine Below.alloc_ ?_ _ | with_reducible refine Below.setCell ?_ (by first | (simp; done) | (simp; omega)) _ | with_reducible exact Below.refl _ _ | with_reducible exact hb_wa | with_reducible refine Below.on ?_ hb_wa ))
set_option maxRecDepth 100000 in
theorem rany_at (s : Value) (c : Int) (n cp : Nat) (p : Option Addr) (hs : s = .slice p n cp) (w : World) : Calls Tryd.prog 34 #[.agg #[s, .int .i64 c]] w fun e w' => e = .returned (.bool (decide (c ≠ 0 ∨ 0 < n))) ∧ Below w.heap.size w w' := by
  subst hs
  by_cases h : c = 0
  · subst h
    by_cases hn : 0 < n
    · have hn' : (0 : Int) < (n : Nat) := by omega
      have hd := Lib.hid (show decide ((0 : Int) ≠ 0 ∨ 0 < n) = true from decide_eq_true (.inr hn))
      go_enter Tryd.func34, Tryd.ntmps34
      go_wp2
      go_ret
      exact ⟨by first | rfl | (simp; done) | (rw [hd.out]; simp [hn]), (by repeat (first | with_reducible refine Below.drew ?_ | with_reducible refine below_drewN ?_ | with_reducible refine Below.alloc_ ?_ _ | with_reducible refine Below.setCell ?_ (by first | (simp; done) | (simp; omega)) _ | with_reducible exact Below.refl _ _ ))⟩
    · have hn' : ¬ (0 : Int) < (n : Nat) := by omega
      have hd := Lib.hid (show decide ((0 : Int) ≠ 0 ∨ 0 < n) = false from decide_eq_false (by omega))
      go_enter Tryd.func34, Tryd.ntmps34
      go_wp2
      go_ret
      exact ⟨by first | rfl | (simp; done) | (rw [hd.out]; simp [hn]), (by repeat (first | with_reducible refine Below.drew ?_ | with_reducible refine below_drewN ?_ | with_reducible refine Below.alloc_ ?_ _ | with_reducible refine Below.setCell ?_ (by first | (simp; done) | (simp; omega)) _ | with_reducible exact Below.refl _ _ ))⟩
  · have h1 : (c != 0) = true := by simpa using h
    have hd := Lib.hid (show decide (c ≠ 0 ∨ 0 < n) = true from decide_eq_true (.inl h))
    clear h
    go_enter Tryd.func34, Tryd.ntmps34
    go_wp2
    go_ret
    exact ⟨by first | rfl | (simp; done) | (rw [hd.out]; simp), (by repeat (first | with_reducible refine Below.drew ?_ | with_reducible refine below_drewN ?_ | with_reducible refine Below.alloc_ ?_ _ | with_reducible refine Below.setCell ?_ (by first | (simp; done) | (simp; omega)) _ | with_reducible exact Below.refl _ _ ))⟩
set_option maxRecDepth 100000 in
set_option maxHeartbeats 1600000 in
theorem rheader_ok (f base : Nat) (w : World) (h0 : f ≠ 0) (hf : f ≤ 4611686018427387904) (hb : base ≤ 64) :
    Calls Tryd.prog 6 #[.int .u64 f, .int .i64 base] w fun e w' => ∃ v', e = .returned (.tuple #[v', .agg #[.slice none 0 0, .int .i64 0]]) ∧ OwnB w' w.heap.size v' (hdr f base) ∧ Below w.heap.size w w' := by
  have h1 : ((f : Nat) : Int) ≠ 0 := by omega
  have h1' : (((f : Nat) : Int) == 0) = false := by simpa using h1
  have h1d : decide (((f : Nat) : Int) = 0) = false := decide_eq_false h1
  have hf' : ¬ (4611686018427387904 : Int) < (f : Nat) := by omega
  have hb1 : ¬ ((base : Nat) : Int) < 0 := by omega
  have hb2 : ¬ (64 : Int) < (base : Nat) := by omega
  have hbb : ((base : Nat) : Int) ≤ 64 := by omega
  have HP : Hid (hdrP f base = [81, 76, 79, 71, 1] ++ (be32 (f / 4294967296) ++ be32 (f % 4294967296)) ++ be32 base) := Lib.hid (by simp [hdrP, List.append_assoc])
  have HH : Hid (hdr f base = hdrP f base ++ le32 (crc (hdrP f base))) := Lib.hid rfl
  have HY := Lib.hid (hdrP_byt (file := f) (base := base) (by omega) (by omega))
  clear h0 h1
  go_enter Tryd.func6, Tryd.ntmps6
  go_wp2_with fail
  refine (rbig8_at f _ hf).mono ?_
  rintro e w1 ⟨v1, rfl, ho1, hb1⟩
  obtain ⟨p1, c1, rfl, hr1⟩ := ho1.form
  have hlit := Lib.hid (show RdB w1 (some ⟨w.heap.size + 1, 0, none⟩) [81, 76, 79, 71, 1] by
    have h_ := (OwnB.rd (ownB_lit (w.alloc (Obj.cells #[.slice none 0 0, .int .i64 0] 30)) [81, 76, 79, 71, 1] (by decide))).2.below hb1
    simpa using h_)
  have hB1 := Lib.hid (show Below (w.heap.size + 1) (w.alloc (Obj.cells #[.slice none 0 0, .int .i64 0] 30)) w1 from (((Below.refl _ _).alloc (by simp) _).trans (hb1.mono (by simp))))
  have hl1 : (be32 (f / 4294967296) ++ be32 (f % 4294967296)).length = 8 := rfl
  rw [hl1]
  replace hr1 := Lib.hid hr1
  clear ho1 hb1
  go_wp2_with fail
  refine (rjoin_at (some ⟨w.heap.size + 1, 0, none⟩) p1 5 5 8 c1 _ _ _ rfl hl1 (by omega) (by omega) hlit.out hr1.out).mono ?_
  rintro e w2 ⟨v2, rfl, ho2, hb2⟩
  obtain ⟨p2, c2, rfl, hr2⟩ := ho2.form
  have hB2 := Lib.hid (hB1.out.trans (hb2.mono (by have h_ := hB1.out.size; simpa using h_)))
  have hl2 : ([81, 76, 79, 71, 1] ++ (be32 (f / 4294967296) ++ be32 (f % 4294967296))).length = 13 := rfl
  rw [hl2]
  replace hr2 := Lib.hid hr2
  clear ho2 hb2 hB1 hr1 hlit
  go_wp2_with fail
  refine (rbig4_at base _ (by omega)).mono ?_
  rintro e w3 ⟨v3, rfl, ho3, hb3⟩
  obtain ⟨p3, c3, rfl, hr3⟩ := ho3.form
  have hB3 := Lib.hid (hB2.out.trans (hb3.mono (by have h_ := hB2.out.size; simpa using h_)))
  have hr23 := Lib.hid (hr2.out.below hb3)
  have hl3 : (be32 base).length = 4 := rfl
  rw [hl3]
  replace hr3 := Lib.hid hr3
  clear ho3 hb3 hB2 hr2
  go_wp2_with fail
  refine (rjoin_at p2 p3 13 c2 4 c3 _ _ _ hl2 hl3 (by omega) (by omega) hr23.out hr3.out).mono ?_
  rintro e w4 ⟨v4, rfl, ho4, hb4⟩
  rw [← HP.out] at ho4
  obtain ⟨p4, c4, rfl, hr4⟩ := ho4.form
  have hB4 := Lib.hid (hB3.out.trans (hb4.mono (by have h_ := hB3.out.size; simpa using h_)))
  rw [hdrP_len]
  replace hr4 := Lib.hid hr4
  clear ho4 hb4 hB3 hr23 hr3
  go_wp2_with fail
  refine (rsum_at p4 17 c4 (hdrP f base) _ (hdrP_len _ _) (by unfold maxLen; omega) hr4.out HY.out).mono ?_
  rintro e w5 ⟨rfl, rfl⟩
  go_wp2_with fail
  refine (rlow_at _ _ (crc_lt _)).mono ?_
  rintro e w5 ⟨rfl, hr5, hb5⟩
  have hB5 := Lib.hid (hB4.out.trans (hb5.mono (by have h_ := hB4.out.size; simpa using h_)))
  have hr45 := Lib.hid (hr4.out.below hb5)
  replace hr5 := Lib.hid hr5
  clear hb5 hB4 hr4
  go_wp2_with fail
  refine (rjoin_at p4 _ 17 c4 4 4 _ _ _ (hdrP_len _ _) rfl (by omega) (by omega) hr45.out hr5.out).mono ?_
  rintro e w6 ⟨v6, rfl, ho6, hb6⟩
  rw [← HH.out] at ho6
  obtain ⟨q6, d6, rfl, hr6⟩ := ho6.form
  rw [hdr_len] at *
  have hB6 := Lib.hid (hB5.out.trans (hb6.mono (by have h_ := hB5.out.size; simpa using h_)))
  have ho6' := Lib.hid (show OwnB w6 (w.heap.size + 1) _ _ from ho6.mono (by have h_ := hB5.out.size; simp at h_; omega))
  clear hb6 hB5 hr45 hr5 hr6 ho6
  go_wp2_with fail
  refine (rnone_at _).mono ?_
  rintro e w7 ⟨rfl, hb7⟩
  have hB7 := Lib.hid (hB6.out.trans (hb7.mono (by have h_ := hB6.out.size; simpa using h_)))
  have ho7 := Lib.hid (ho6'.out.below hb7)
  clear hb7 hB6 ho6'
  have hc7 := (bcell hB7.out).1
  have hf7 := (bcell hB7.out).2
  have hz7 : w.heap.size < w7.heap.size := by have h_ := hB7.out.size; simp at h_; omega
  go_wp2
  refine bodyPost_ret (v := .tuple #[.slice q6 21 d6, .agg #[.slice none 0 0, .int .i64 0]]) (by simp [results, Tryd.results6, go_sem, *]) rfl ⟨_, rfl, ?_, ?_⟩
  · exact OwnB.mono (show OwnB _ (w.heap.size + 1) _ _ from ownsRow_setCell_below (ownsRow_setCell_below ho7.out (a := ⟨w.heap.size, 0, none⟩) (by simp) _) (a := ⟨w.heap.size, 1, none⟩) (by simp) _) (by omega)
  · exact (((((Below.refl _ w).alloc (Nat.le_refl _) _).trans (hB7.out.mono (by omega))).setCell (by simp) _).setCell (by simp) _)
end Go.Proofs.YtfapaehjmbekpaaDoor
