import Derived.Test.YtehmbcpgendkjaaOrders
namespace Go.Proofs.Ytehmbcpgendkjaa
open Go.RowKit
set_option linter.unusedSimpArgs false
set_option linter.unusedVariables false
set_option maxHeartbeats 1600000 in
theorem orders_walk (c : Cfg) (an ad bn bd : Int) (w : World) (ok : c.Ok) (h1 : 0 ≤ an) :
    Calls Try.prog 6 #[.agg #[.int .i64 c.f, .int .i64 c.mb, .int .u64 c.dl, .int .u64 c.wd, .int .u64 c.ev, .int .u64 c.bt, .int .u64 c.ep, .int .u64 c.em, .int .u64 c.mn, .int .u64 c.ms], .agg #[.int .u64 an, .int .i64 ad], .agg #[.int .u64 bn, .int .i64 bd]] w fun e w' => e = .returned (.bool true) ∧ Below w.heap.size w w' := by
  go_enter Try.func6, Try.ntmps6
  go_wp2_with fail
  refine (groups_any c _ ok).mono ?_
  rintro e wa (⟨hb, b, d, rfl, hlb, hg, hr, hb_wa⟩ | ⟨hb, rfl, hb_wa⟩)
  · obtain ⟨⟨f1, f2⟩, _⟩ := Cfg.valid hb
    have HG := Lib.hid hg
    have HR := Lib.hid hr
    have hc_wa := (bcell hb_wa).1
    clear hb hg hr
    have hz_wa_0 : w.heap.size < wa.heap.size := by have h_ := hb_wa.size; (try simp at h_); omega
    have hz_wa_1 : w.heap.size + 1 < wa.heap.size := by have h_ := hb_wa.size; (try simp at h_); omega
    have hz_wa_2 : w.heap.size + 1 + 1 < wa.heap.size := by have h_ := hb_wa.size; (try simp at h_); omega
    go_wp2
    refine wp_region_below (by kernel_rfl) (by kernel_rfl) ?_
    repeat first | go_big_quiet_skip | (go_big_quiet_want; go_big_quiet_op; go_big_quiet_on) | (go_big_quiet_want; rename_i K hK; apply quiet_mk; (focus (intro w1 hw1; have hc1 := (bcell hw1).1; have hf1 := (bcell hw1).2; go_simp; first | done | rfl | (first | (go_at_call 11; (with_reducible refine (compare_any _ _ _ _ _).mono ?_); rintro e w2 ⟨rfl, hb2⟩; exact ⟨rfl, (hw1.trans (hb2.mono hw1.size)).mono (by simp)⟩) | (go_at_call 18; (with_reducible refine (rcompare_any _ _ _ _ _).mono ?_); rintro e w2 ⟨rfl, hb2⟩; exact ⟨rfl, (hw1.trans (hb2.mono hw1.size)).mono (by simp)⟩) | (go_at_call 12; (with_reducible refine (less_any _ _ _ _ _).mono ?_); rintro e w2 ⟨rfl, hb2⟩; exact ⟨rfl, (hw1.trans (hb2.mono hw1.size)).mono (by simp)⟩) | (go_at_call 19; (with_reducible refine (rless_any _ _ _ _ _).mono ?_); rintro e w2 ⟨rfl, hb2⟩; exact ⟨rfl, (hw1.trans (hb2.mono hw1.size)).mono (by simp)⟩)))); refine hK _ ?_; clear hK K; try simp only [Act.put, List.setIfInBounds_toArray, List.set_cons_zero, List.set_cons_succ])
    refine wpQuiet_nil ?_
    intro wb hb_wb
    have hc_wb := (bcell hb_wb).1
    have hf_wb := (bcell hb_wb).2
    have hz_wb_0 : w.heap.size < wb.heap.size := by have h_ := hb_wb.size; (try simp at h_); omega
    have hz_wb_1 : w.heap.size + 1 < wb.heap.size := by have h_ := hb_wb.size; (try simp at h_); omega
    have hz_wb_2 : w.heap.size + 1 + 1 < wb.heap.size := by have h_ := hb_wb.size; (try simp at h_); omega
    have VG : ∀ w1, Below wb.heap.size wb w1 → Calls Try.prog 20 #[.pointer (some ⟨b, 0, none⟩), .agg #[.int .u64 an, .int .i64 ad]] w1 fun e w' => e = .returned (.bool (validB c an ad)) ∧ Below w1.heap.size w1 w' := fun w1 h =>
      valid_at b c an ad w1 ((HG.out.below HG.out.lt hb_wb).below (Nat.lt_of_lt_of_le HG.out.lt hb_wb.size) h) f1 f2 h1
    have VR : ∀ w1, Below wb.heap.size wb w1 → Calls Try.prog 21 #[.pointer (some ⟨d, 0, none⟩), .agg #[.int .u64 an, .int .i64 ad]] w1 fun e w' => e = .returned (.bool (validB c an ad)) ∧ Below w1.heap.size w1 w' := fun w1 h =>
      rvalid_at d c an ad w1 ((HR.out.below HR.out.lt hb_wb).below (Nat.lt_of_lt_of_le HR.out.lt hb_wb.size) h) f1 f2 h1
    have VG := Lib.hid VG
    have VR := Lib.hid VR
    go_wp2
    refine wp_region_below (by kernel_rfl) (by kernel_rfl) ?_
    repeat first | go_big_quiet_skip | (go_big_quiet_want; go_big_quiet_op; go_big_quiet_on) | (go_big_quiet_want; rename_i K hK; apply quiet_mk; (focus (intro w1 hw1; have hc1 := (bcell hw1).1; have hf1 := (bcell hw1).2; go_simp; first | done | rfl | (first | (go_at_call 20; (refine (VG.out _ hw1).mono ?_); rintro e w2 ⟨rfl, hb2⟩; exact ⟨rfl, (hw1.trans (hb2.mono hw1.size)).mono (by simp)⟩) | (go_at_call 21; (refine (VR.out _ hw1).mono ?_); rintro e w2 ⟨rfl, hb2⟩; exact ⟨rfl, (hw1.trans (hb2.mono hw1.size)).mono (by simp)⟩)))); refine hK _ ?_; clear hK K; try simp only [Act.put, List.setIfInBounds_toArray, List.set_cons_zero, List.set_cons_succ])
    refine wpQuiet_nil ?_
    intro wc hb_wc
    have hc_wc := (bcell hb_wc).1
    have hf_wc := (bcell hb_wc).2
    go_wp2
    go_ret
    exact ⟨by simp, (by repeat (first | exact Below.refl _ _ | exact hb_wa | refine Below.on ?_ hb_wa | exact hb_wb | refine Below.on ?_ hb_wb | exact hb_wc | refine Below.on ?_ hb_wc | refine Below.alloc_ ?_ _ | refine Below.drew ?_ | refine below_drewN ?_ | refine Below.setCell ?_ (by first | (simp; done) | (simp; omega)) _))⟩
  · have hc_wa := (bcell hb_wa).1
    have hz_wa_0 : w.heap.size < wa.heap.size := by have h_ := hb_wa.size; (try simp at h_); omega
    have hz_wa_1 : w.heap.size + 1 < wa.heap.size := by have h_ := hb_wa.size; (try simp at h_); omega
    have hz_wa_2 : w.heap.size + 1 + 1 < wa.heap.size := by have h_ := hb_wa.size; (try simp at h_); omega
    go_wp2
    refine wp_region_below (by kernel_rfl) (by kernel_rfl) ?_
    repeat first | go_big_quiet_skip | (go_big_quiet_want; go_big_quiet_op; go_big_quiet_on) | (go_big_quiet_want; rename_i K hK; apply quiet_mk; (focus (intro w1 hw1; have hc1 := (bcell hw1).1; have hf1 := (bcell hw1).2; go_simp; first | done | rfl | (first | (go_at_call 11; (with_reducible refine (compare_any _ _ _ _ _).mono ?_); rintro e w2 ⟨rfl, hb2⟩; exact ⟨rfl, (hw1.trans (hb2.mono hw1.size)).mono (by simp)⟩) | (go_at_call 18; (with_reducible refine (rcompare_any _ _ _ _ _).mono ?_); rintro e w2 ⟨rfl, hb2⟩; exact ⟨rfl, (hw1.trans (hb2.mono hw1.size)).mono (by simp)⟩) | (go_at_call 12; (with_reducible refine (less_any _ _ _ _ _).mono ?_); rintro e w2 ⟨rfl, hb2⟩; exact ⟨rfl, (hw1.trans (hb2.mono hw1.size)).mono (by simp)⟩) | (go_at_call 19; (with_reducible refine (rless_any _ _ _ _ _).mono ?_); rintro e w2 ⟨rfl, hb2⟩; exact ⟨rfl, (hw1.trans (hb2.mono hw1.size)).mono (by simp)⟩)))); refine hK _ ?_; clear hK K; try simp only [Act.put, List.setIfInBounds_toArray, List.set_cons_zero, List.set_cons_succ])
    refine wpQuiet_nil ?_
    intro wb hb_wb
    have hc_wb := (bcell hb_wb).1
    have hf_wb := (bcell hb_wb).2
    have hz_wb_0 : w.heap.size < wb.heap.size := by have h_ := hb_wb.size; (try simp at h_); omega
    have hz_wb_1 : w.heap.size + 1 < wb.heap.size := by have h_ := hb_wb.size; (try simp at h_); omega
    have hz_wb_2 : w.heap.size + 1 + 1 < wb.heap.size := by have h_ := hb_wb.size; (try simp at h_); omega
    go_wp2_with fail
    refine (valid_nil _ _ _).mono ?_
    rintro e wc ⟨rfl, hb_wc⟩
    have hc_wc := (bcell hb_wc).1
    have hf_wc := (bcell hb_wc).2
    go_wp2
    go_ret
    exact ⟨rfl, (by repeat (first | exact Below.refl _ _ | exact hb_wa | refine Below.on ?_ hb_wa | exact hb_wb | refine Below.on ?_ hb_wb | exact hb_wc | refine Below.on ?_ hb_wc | refine Below.alloc_ ?_ _ | refine Below.drew ?_ | refine below_drewN ?_ | refine Below.setCell ?_ (by first | (simp; done) | (simp; omega)) _))⟩
theorem orders_law (a0 a1 a2 a3 a4 a5 a6 a7 a8 a9 an ad bn bd : Int) (w : World) (h0 : (Lit.int .i64 a0).wf = true) (h1 : (Lit.int .i64 a1).wf = true) (h2 : (Lit.int .u64 a2).wf = true) (h3 : (Lit.int .u64 a3).wf = true) (h4 : (Lit.int .u64 a4).wf = true) (h5 : (Lit.int .u64 a5).wf = true) (h6 : (Lit.int .u64 a6).wf = true) (h7 : (Lit.int .u64 a7).wf = true) (h8 : (Lit.int .u64 a8).wf = true) (h9 : (Lit.int .u64 a9).wf = true) (h10 : (Lit.int .u64 an).wf = true) (h11 : (Lit.int .i64 ad).wf = true) (h12 : (Lit.int .u64 bn).wf = true) (h13 : (Lit.int .i64 bd).wf = true) :
    Calls Try.prog 6 #[.agg #[.int .i64 a0, .int .i64 a1, .int .u64 a2, .int .u64 a3, .int .u64 a4, .int .u64 a5, .int .u64 a6, .int .u64 a7, .int .u64 a8, .int .u64 a9], .agg #[.int .u64 an, .int .i64 ad], .agg #[.int .u64 bn, .int .i64 bd]] w fun e w' => e = .returned (.bool true) ∧ Below w.heap.size w w' :=
  orders_walk ⟨a0, a1, a2, a3, a4, a5, a6, a7, a8, a9⟩ an ad bn bd w ⟨(wf_i64 h0).1, (wf_i64 h0).2, (wf_i64 h1).1, (wf_i64 h1).2, (wf_u64 h2).1, (wf_u64 h3).1, (wf_u64 h4).1, (wf_u64 h5).1, (wf_u64 h6).1, (wf_u64 h7).1, (wf_u64 h8).1, (wf_u64 h9).1⟩ (wf_u64 h10).1
end Go.Proofs.Ytehmbcpgendkjaa
