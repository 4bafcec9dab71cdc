import Derived.Test.YtehmbcpgendkjaaDoorMaj
import Derived.Test.YtehmbcpgendkjaaDoorGroups
namespace Go.Proofs.YtehmbcpgendkjaaDoor
open Go.RowKit
set_option linter.unusedSimpArgs false
set_option linter.unusedVariables false
theorem config_at (b : Nat) (c : Cfg) (w : World) (hg : GrpAt w b c (2 * c.f + 1)) (h1 : 1 ≤ c.f) :
    Calls Tryd.prog 29 #[.pointer (some ⟨b, 0, none⟩)] w fun e w' => e = .returned (.agg #[.int .i64 c.f, .int .i64 c.mb, .int .u64 c.dl, .int .u64 c.wd, .int .u64 c.ev, .int .u64 c.bt, .int .u64 c.ep, .int .u64 c.em, .int .u64 c.mn, .int .u64 c.ms]) ∧ Below w.heap.size w w' := by
  have M : ∀ w1, Below w.heap.size w w1 → Calls Tryd.prog 54 #[.pointer (some ⟨b, 0, none⟩)] w1 fun e w' => e = .returned (.bool true) ∧ w1 = w' := fun w1 hb => by
    have h := made_at b (2 * c.f + 1) w1 (hg.below hg.lt hb).nodes
    rw [show decide (0 < 2 * c.f + 1) = true from decide_eq_true (by omega)] at h
    exact h
  replace M := Lib.hid M
  have lt := hg.lt
  have q0 := hg.f; have q1 := hg.mb; have q2 := hg.dl; have q3 := hg.wd; have q4 := hg.ev; have q5 := hg.bt; have q6 := hg.ep; have q7 := hg.em; have q8 := hg.mn; have q9 := hg.ms
  clear hg
  go_enter Tryd.func29, Tryd.ntmps29
  go_wp2_with fail
  refine (M.out _ (by repeat (first | with_reducible refine Below.drew ?_ | with_reducible refine below_drewN ?_ | with_reducible refine Below.alloc_ ?_ _ | with_reducible refine Below.setCell ?_ (by first | (simp; done) | (simp; omega)) _ | with_reducible exact Below.refl _ _ ))).mono ?_
  rintro e w1 ⟨rfl, rfl⟩
  go_wp2
  exact bodyPost_ret (v := .agg #[.int .i64 c.f, .int .i64 c.mb, .int .u64 c.dl, .int .u64 c.wd, .int .u64 c.ev, .int .u64 c.bt, .int .u64 c.ep, .int .u64 c.em, .int .u64 c.mn, .int .u64 c.ms]) (by simp [results, Tryd.results29, go_sem]) rfl ⟨rfl, (by repeat (first | with_reducible refine Below.drew ?_ | with_reducible refine below_drewN ?_ | with_reducible refine Below.alloc_ ?_ _ | with_reducible refine Below.setCell ?_ (by first | (simp; done) | (simp; omega)) _ | with_reducible exact Below.refl _ _ ))⟩
theorem config_not (p : Option Addr) (w : World) (h : NotMade w p) :
    Calls Tryd.prog 29 #[.pointer p] w fun e w' => e = .returned (.agg #[.int .i64 0, .int .i64 0, .int .u64 0, .int .u64 0, .int .u64 0, .int .u64 0, .int .u64 0, .int .u64 0, .int .u64 0, .int .u64 0]) ∧ Below w.heap.size w w' := by
  have M := fun w1 hb => made_not p w1 (h.below (w' := w1) hb)
  replace M := Lib.hid M
  clear h
  go_enter Tryd.func29, Tryd.ntmps29
  go_wp2_with fail
  refine (M.out _ (by repeat (first | with_reducible refine Below.drew ?_ | with_reducible refine below_drewN ?_ | with_reducible refine Below.alloc_ ?_ _ | with_reducible refine Below.setCell ?_ (by first | (simp; done) | (simp; omega)) _ | with_reducible exact Below.refl _ _ ))).mono ?_
  rintro e w1 ⟨rfl, rfl⟩
  go_wp2
  exact bodyPost_ret (v := .agg #[.int .i64 0, .int .i64 0, .int .u64 0, .int .u64 0, .int .u64 0, .int .u64 0, .int .u64 0, .int .u64 0, .int .u64 0, .int .u64 0]) (by simp [results, Tryd.results29, go_sem]) rfl ⟨rfl, (by repeat (first | with_reducible refine Below.drew ?_ | with_reducible refine below_drewN ?_ | with_reducible refine Below.alloc_ ?_ _ | with_reducible refine Below.setCell ?_ (by first | (simp; done) | (simp; omega)) _ | with_reducible exact Below.refl _ _ ))⟩
theorem valid_not (p : Option Addr) (n d : Int) (w : World) (h : NotMade w p) : Calls Tryd.prog 26 #[.pointer p, .agg #[.int .u64 n, .int .i64 d]] w fun e w' => e = .returned (.bool false) ∧ Below w.heap.size w w' := by
  have MB := fun w1 hb => sameB (made_not p w1 (h.below (w' := w1) hb))
  replace MB := Lib.hid MB
  clear h
  go_enter Tryd.func26, Tryd.ntmps26
  go_wp2
  refine wp_region_below (by kernel_rfl) (by kernel_rfl) ?_
  repeat first | go_big_quiet_skip | (go_big_quiet_want; go_big_quiet_op; go_big_quiet_on) | (go_big_quiet_want; rename_i K hK; apply quiet_mk; (focus (intro w1 hw1; have hc1 := (bcell hw1).1; have hf1 := (bcell hw1).2; go_simp; first | done | rfl | (first | (go_at_call 54; (refine (MB.out _ (Below.on (Below.alloc_ (Below.refl _ _) _) hw1)).mono ?_); rintro e w2 ⟨rfl, hb2⟩; exact ⟨rfl, (hw1.trans (hb2.mono hw1.size)).mono (by simp)⟩)))); refine hK _ ?_; clear hK K; try simp only [Act.put, List.setIfInBounds_toArray, List.set_cons_zero, List.set_cons_succ])
  refine wpQuiet_nil ?_
  intro wa hb_wa
  have hc_wa := (bcell hb_wa).1
  have hf_wa := (bcell hb_wa).2
  go_wp2
  go_ret
  exact ⟨rfl, (by repeat (first | exact Below.refl _ _ | exact hb_wa | refine Below.on ?_ hb_wa | refine Below.alloc_ ?_ _ | refine Below.drew ?_ | refine below_drewN ?_ | refine Below.setCell ?_ (by first | (simp; done) | (simp; omega)) _))⟩
theorem high_not (p : Option Addr) (a : Int) (w : World) (h : NotMade w p) : Calls Tryd.prog 27 #[.pointer p, .int .u64 a] w fun e w' => e = .returned (.int .u64 0) ∧ w = w' := by
  have M := Lib.hid (made_not p w h)
  clear h
  go_enter Tryd.func27, Tryd.ntmps27
  go_wp2_with (go_at_call 54; refine M.out.mono ?_; rintro e w1 ⟨rfl, rfl⟩)
  go_ret
  exact ⟨rfl, rfl⟩
theorem inside_not (p : Option Addr) (w : World) (h : NotMade w p) : Calls Tryd.prog 28 #[.pointer p, .int .u64 0, .int .u64 0] w fun e w' => e = .returned (.bool false) ∧ w = w' := by
  have H := Lib.hid (high_not p 0 w h)
  clear h
  go_enter Tryd.func28, Tryd.ntmps28
  go_wp2_with (go_at_call 27; refine H.out.mono ?_; rintro e w1 ⟨rfl, rfl⟩)
  go_ret
  exact ⟨rfl, rfl⟩
set_option maxRecDepth 100000 in
set_option maxHeartbeats 3200000 in
theorem configs_walk (c : Cfg) (q : Int) (w : World) (ok : c.Ok) (hT : Tab w) (hq : (Lit.int .i64 q).wf = true) :
    Calls Tryd.prog 5 #[.agg #[.int .i64 c.f, .int .i64 c.mb, .int .u64 c.dl, .int .u64 c.wd, .int .u64 c.ev, .int .u64 c.bt, .int .u64 c.ep, .int .u64 c.em, .int .u64 c.mn, .int .u64 c.ms], .int .i64 q] w fun e w' => e = .returned (.bool true) ∧ Below w.heap.size w w' := by
  clear hq hT
  go_enter Tryd.func5, Tryd.ntmps5
  go_wp2_with fail
  refine (groups_any c _ ok).mono ?_
  rintro e wa (⟨hb, b, d, rfl, hlb, hg, hr, hb_wa⟩ | ⟨hb, rfl, hb_wa⟩)
  · obtain ⟨⟨f1, f2⟩, _⟩ := Cfg.valid hb
    replace hb := Lib.hid hb
    have HG := Lib.hid hg
    have HR := Lib.hid hr
    clear hg hr hlb
    have hc_wa := (bcell hb_wa).1
    have hf_wa := (bcell hb_wa).2
    have hz_wa_0 : w.heap.size < wa.heap.size := by have h_ := hb_wa.size; (try simp at h_); omega
    go_wp2_with fail
    have NM : NotMade (wa.alloc (.cells #[.int .i64 0, .int .i64 0, .int .u64 0, .int .u64 0, .int .u64 0, .int .u64 0, .int .u64 0, .int .u64 0, .int .u64 0, .int .u64 0, .int .i64 0] 45)) (some ⟨wa.heap.size, 0, none⟩) := .inr ⟨_, rfl, by simp, by simp⟩
    replace NM := Lib.hid NM
    refine (nodes_not _ _ NM.out).mono ?_
    rintro e w1 ⟨rfl, rfl⟩
    go_wp2_with fail
    refine (quorum_not _ _ NM.out).mono ?_
    rintro e w1 ⟨rfl, rfl⟩
    go_wp2_with fail
    refine (node_not _ _ _ NM.out).mono ?_
    rintro e w1 ⟨rfl, rfl⟩
    go_wp2_with fail
    refine (all_not _ _ NM.out).mono ?_
    rintro e w1 ⟨rfl, rfl⟩
    go_wp2_with fail
    refine (majority_not _ 7 _ NM.out).mono ?_
    rintro e w1 ⟨rfl, rfl⟩
    go_wp2_with fail
    refine (valid_not _ _ _ _ NM.out).mono ?_
    rintro e wb ⟨rfl, hb_wb⟩
    have hc_wb := (bcell hb_wb).1
    have hf_wb := (bcell hb_wb).2
    have hz_wb_0 : w.heap.size < wb.heap.size := by have h_ := hb_wb.size; (try simp at h_); omega
    go_wp2_with fail
    refine (high_not _ _ _ (NM.out.below (by repeat (first | with_reducible refine Below.drew ?_ | with_reducible refine below_drewN ?_ | with_reducible refine Below.alloc_ ?_ _ | with_reducible refine Below.setCell ?_ (by first | (simp; done) | (simp; omega)) _ | with_reducible exact Below.refl _ _ | with_reducible exact hb_wb | with_reducible refine Below.on ?_ hb_wb )))).mono ?_
    rintro e w1 ⟨rfl, rfl⟩
    go_wp2_with fail
    refine (inside_not _ _ (NM.out.below (by repeat (first | with_reducible refine Below.drew ?_ | with_reducible refine below_drewN ?_ | with_reducible refine Below.alloc_ ?_ _ | with_reducible refine Below.setCell ?_ (by first | (simp; done) | (simp; omega)) _ | with_reducible exact Below.refl _ _ | with_reducible exact hb_wb | with_reducible refine Below.on ?_ hb_wb )))).mono ?_
    rintro e w1 ⟨rfl, rfl⟩
    go_wp2
    have HGB : Hid (GrpAt wb b c (2 * c.f + 1)) := Lib.hid (HG.out.below HG.out.lt (by repeat (first | with_reducible refine Below.drew ?_ | with_reducible refine below_drewN ?_ | with_reducible refine Below.alloc_ ?_ _ | with_reducible refine Below.setCell ?_ (by first | (simp; done) | (simp; omega)) _ | with_reducible exact Below.refl _ _ | with_reducible exact hb_wb | with_reducible refine Below.on ?_ hb_wb )))
    have HRB : Hid (RefAt wb d c) := Lib.hid (HR.out.below HR.out.lt (by repeat (first | with_reducible refine Below.drew ?_ | with_reducible refine below_drewN ?_ | with_reducible refine Below.alloc_ ?_ _ | with_reducible refine Below.setCell ?_ (by first | (simp; done) | (simp; omega)) _ | with_reducible exact Below.refl _ _ | with_reducible exact hb_wb | with_reducible refine Below.on ?_ hb_wb )))
    refine wp_region_below (by kernel_rfl) (by kernel_rfl) ?_
    repeat first | go_big_quiet_skip | (go_big_quiet_want; go_big_quiet_op; go_big_quiet_on) | (go_big_quiet_want; rename_i K hK; apply quiet_mk; (focus (intro w1 hw1; have hc1 := (bcell hw1).1; have hf1 := (bcell hw1).2; go_simp; first | done | rfl | (first | (go_at_call 29; (refine (config_at b c _ (HGB.out.below HGB.out.lt hw1) f1).mono ?_); rintro e w2 ⟨rfl, hb2⟩; exact ⟨rfl, (hw1.trans (hb2.mono hw1.size)).mono (by simp)⟩) | (go_at_call 22; (refine (sameB (nodes_at b _ _ (HGB.out.below HGB.out.lt hw1).nodes (by omega))).mono ?_); rintro e w2 ⟨rfl, hb2⟩; exact ⟨rfl, (hw1.trans (hb2.mono hw1.size)).mono (by simp)⟩) | (go_at_call 30; (refine (sameB (rnodes_at d c.f _ (HRB.out.below HRB.out.lt hw1).f (by omega) f2)).mono ?_); rintro e w2 ⟨rfl, hb2⟩; exact ⟨rfl, (hw1.trans (hb2.mono hw1.size)).mono (by simp)⟩) | (go_at_call 24; (refine (sameB (quorum_at b _ c.f _ (HGB.out.below HGB.out.lt hw1).nodes (HGB.out.below HGB.out.lt hw1).f (by omega) (by omega) f2)).mono ?_); rintro e w2 ⟨rfl, hb2⟩; exact ⟨rfl, (hw1.trans (hb2.mono hw1.size)).mono (by simp)⟩) | (go_at_call 31; (refine (sameB (rquorum_at d c.f _ (HRB.out.below HRB.out.lt hw1).f (by omega) f2)).mono ?_); rintro e w2 ⟨rfl, hb2⟩; exact ⟨rfl, (hw1.trans (hb2.mono hw1.size)).mono (by simp)⟩) | (go_at_call 25; (refine (sameB (node_at b _ q _ (HGB.out.below HGB.out.lt hw1).nodes (by omega))).mono ?_); rintro e w2 ⟨rfl, hb2⟩; exact ⟨rfl, (hw1.trans (hb2.mono hw1.size)).mono (by simp)⟩) | (go_at_call 32; (refine (sameB (rnode_at d c.f q _ (HRB.out.below HRB.out.lt hw1).f (by omega) f2)).mono ?_); rintro e w2 ⟨rfl, hb2⟩; exact ⟨rfl, (hw1.trans (hb2.mono hw1.size)).mono (by simp)⟩) | (go_at_call 23; (refine (sameB (all_at b c _ (HGB.out.below HGB.out.lt hw1).nodes f1 f2)).mono ?_); rintro e w2 ⟨rfl, hb2⟩; exact ⟨rfl, (hw1.trans (hb2.mono hw1.size)).mono (by simp)⟩) | (go_at_call 33; (refine (sameB (rall_at d c _ (HRB.out.below HRB.out.lt hw1).f f1 f2)).mono ?_); rintro e w2 ⟨rfl, hb2⟩; exact ⟨rfl, (hw1.trans (hb2.mono hw1.size)).mono (by simp)⟩)))); refine hK _ ?_; clear hK K; try simp only [Act.put, List.setIfInBounds_toArray, List.set_cons_zero, List.set_cons_succ])
    refine wpQuiet_nil ?_
    intro wx hb_wx
    have hc_wx := (bcell hb_wx).1
    have hf_wx := (bcell hb_wx).2
    go_wp2
    go_ret
    exact ⟨by simp, (by repeat (first | with_reducible refine Below.drew ?_ | with_reducible refine below_drewN ?_ | with_reducible refine Below.alloc_ ?_ _ | with_reducible refine Below.setCell ?_ (by first | (simp; done) | (simp; omega)) _ | with_reducible exact Below.refl _ _ | with_reducible exact hb_wa | with_reducible refine Below.on ?_ hb_wa | with_reducible exact hb_wb | with_reducible refine Below.on ?_ hb_wb | with_reducible exact hb_wx | with_reducible refine Below.on ?_ hb_wx ))⟩
  · have hc_wa := (bcell hb_wa).1
    have hf_wa := (bcell hb_wa).2
    have hz_wa_0 : w.heap.size < wa.heap.size := by have h_ := hb_wa.size; (try simp at h_); omega
    go_wp2_with fail
    have NM : NotMade (wa.alloc (.cells #[.int .i64 0, .int .i64 0, .int .u64 0, .int .u64 0, .int .u64 0, .int .u64 0, .int .u64 0, .int .u64 0, .int .u64 0, .int .u64 0, .int .i64 0] 45)) (some ⟨wa.heap.size, 0, none⟩) := .inr ⟨_, rfl, by simp, by simp⟩
    replace NM := Lib.hid NM
    refine (nodes_not _ _ NM.out).mono ?_
    rintro e w1 ⟨rfl, rfl⟩
    go_wp2_with fail
    refine (quorum_not _ _ NM.out).mono ?_
    rintro e w1 ⟨rfl, rfl⟩
    go_wp2_with fail
    refine (node_not _ _ _ NM.out).mono ?_
    rintro e w1 ⟨rfl, rfl⟩
    go_wp2_with fail
    refine (all_not _ _ NM.out).mono ?_
    rintro e w1 ⟨rfl, rfl⟩
    go_wp2_with fail
    refine (majority_not _ 7 _ NM.out).mono ?_
    rintro e w1 ⟨rfl, rfl⟩
    go_wp2_with fail
    refine (valid_not _ _ _ _ NM.out).mono ?_
    rintro e wb ⟨rfl, hb_wb⟩
    have hc_wb := (bcell hb_wb).1
    have hf_wb := (bcell hb_wb).2
    have hz_wb_0 : w.heap.size < wb.heap.size := by have h_ := hb_wb.size; (try simp at h_); omega
    go_wp2_with fail
    refine (high_not _ _ _ (NM.out.below (by repeat (first | with_reducible refine Below.drew ?_ | with_reducible refine below_drewN ?_ | with_reducible refine Below.alloc_ ?_ _ | with_reducible refine Below.setCell ?_ (by first | (simp; done) | (simp; omega)) _ | with_reducible exact Below.refl _ _ | with_reducible exact hb_wb | with_reducible refine Below.on ?_ hb_wb )))).mono ?_
    rintro e w1 ⟨rfl, rfl⟩
    go_wp2_with fail
    refine (inside_not _ _ (NM.out.below (by repeat (first | with_reducible refine Below.drew ?_ | with_reducible refine below_drewN ?_ | with_reducible refine Below.alloc_ ?_ _ | with_reducible refine Below.setCell ?_ (by first | (simp; done) | (simp; omega)) _ | with_reducible exact Below.refl _ _ | with_reducible exact hb_wb | with_reducible refine Below.on ?_ hb_wb )))).mono ?_
    rintro e w1 ⟨rfl, rfl⟩
    go_wp2_with fail
    refine (config_not _ _ (.inl rfl)).mono ?_
    rintro e wc ⟨rfl, hb_wc⟩
    have hc_wc := (bcell hb_wc).1
    have hf_wc := (bcell hb_wc).2
    go_wp2_with fail
    refine (nodes_not _ _ (.inl rfl)).mono ?_
    rintro e w1 ⟨rfl, rfl⟩
    go_wp2_with fail
    refine (quorum_not _ _ (.inl rfl)).mono ?_
    rintro e w1 ⟨rfl, rfl⟩
    go_wp2_with fail
    refine (node_not _ _ _ (.inl rfl)).mono ?_
    rintro e w1 ⟨rfl, rfl⟩
    go_wp2_with fail
    refine (all_not _ _ (.inl rfl)).mono ?_
    rintro e w1 ⟨rfl, rfl⟩
    go_wp2
    go_ret
    exact ⟨by simp, (by repeat (first | with_reducible refine Below.drew ?_ | with_reducible refine below_drewN ?_ | with_reducible refine Below.alloc_ ?_ _ | with_reducible refine Below.setCell ?_ (by first | (simp; done) | (simp; omega)) _ | with_reducible exact Below.refl _ _ | with_reducible exact hb_wa | with_reducible refine Below.on ?_ hb_wa | with_reducible exact hb_wb | with_reducible refine Below.on ?_ hb_wb | with_reducible exact hb_wc | with_reducible refine Below.on ?_ hb_wc ))⟩
theorem configs_law (a0 a1 a2 a3 a4 a5 a6 a7 a8 a9 q : Int) (w : World) (h0 : (Lit.int .i64 a0).wf = true) (h1 : (Lit.int .i64 a1).wf = true) (h2 : (Lit.int .u64 a2).wf = true) (h3 : (Lit.int .u64 a3).wf = true) (h4 : (Lit.int .u64 a4).wf = true) (h5 : (Lit.int .u64 a5).wf = true) (h6 : (Lit.int .u64 a6).wf = true) (h7 : (Lit.int .u64 a7).wf = true) (h8 : (Lit.int .u64 a8).wf = true) (h9 : (Lit.int .u64 a9).wf = true) (hq : (Lit.int .i64 q).wf = true) (hT : Tab w) :
    Calls Tryd.prog 5 #[.agg #[.int .i64 a0, .int .i64 a1, .int .u64 a2, .int .u64 a3, .int .u64 a4, .int .u64 a5, .int .u64 a6, .int .u64 a7, .int .u64 a8, .int .u64 a9], .int .i64 q] w fun e w' => e = .returned (.bool true) ∧ Below w.heap.size w w' :=
  configs_walk ⟨a0, a1, a2, a3, a4, a5, a6, a7, a8, a9⟩ q w ⟨(wf_i64 h0).1, (wf_i64 h0).2, (wf_i64 h1).1, (wf_i64 h1).2, (wf_u64 h2).1, (wf_u64 h3).1, (wf_u64 h4).1, (wf_u64 h5).1, (wf_u64 h6).1, (wf_u64 h7).1, (wf_u64 h8).1, (wf_u64 h9).1⟩ hT hq
end Go.Proofs.YtehmbcpgendkjaaDoor
