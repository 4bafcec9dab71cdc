import Derived.Test.YtehmbcpgendkjaaCmp
namespace Go.Proofs.Ytehmbcpgendkjaa
open Go.RowKit
attribute [local go_sem] i64_m1 i64_0 i64_1
theorem five (an ad bn bd : Int) : (an < bn ∨ bn < an) ∨ (an = bn ∧ (ad < bd ∨ bd < ad)) ∨ (an = bn ∧ ad = bd) := by omega
theorem cmpB_of_lt {an ad bn bd : Int} (h : an < bn ∨ an = bn ∧ ad < bd) : cmpB an ad bn bd = -1 := by
  rcases cmpB_cases an ad bn bd with ⟨g, gp⟩ | ⟨g, gp⟩ | ⟨g, gp⟩ <;> omega
theorem cmpB_of_gt {an ad bn bd : Int} (h : bn < an ∨ bn = an ∧ bd < ad) : cmpB an ad bn bd = 1 := by
  rcases cmpB_cases an ad bn bd with ⟨g, gp⟩ | ⟨g, gp⟩ | ⟨g, gp⟩ <;> omega
theorem lessB_trans {an ad bn bd cn cd : Int} (h1 : lessB an ad bn bd = true) (h2 : lessB bn bd cn cd = true) : lessB an ad cn cd = true := by
  rw [lessB_true] at *; omega
set_option maxHeartbeats 1600000 in
theorem total_walk (an ad bn bd cn cd : Int) (w : World) : Calls Try.prog 4 #[.agg #[.int .u64 an, .int .i64 ad], .agg #[.int .u64 bn, .int .i64 bd], .agg #[.int .u64 cn, .int .i64 cd]] w fun e w' => e = .returned (.bool true) ∧ Below w.heap.size w w' := by
  have C1 := Lib.hid (compare_any an ad bn bd)
  have C2 := Lib.hid (compare_any bn bd an ad)
  have L1 := Lib.hid (less_any an ad bn bd)
  have L2 := Lib.hid (less_any bn bd cn cd)
  have L3 := Lib.hid (less_any an ad cn cd)
  have LT := Lib.hid (@lessB_trans an ad bn bd cn cd)
  rcases five an ad bn bd with (h | h) | ⟨rfl, h | h⟩ | ⟨rfl, rfl⟩
  · rw [cmpB_of_lt (.inl h)] at C1
    rw [cmpB_of_gt (.inl h)] at C2
    rw [lessB_true.2 (.inl h)] at L1 LT
    have hne : ¬ an = bn := by omega
    cases h2 : lessB bn bd cn cd
    · rw [h2] at L2
      clear h2 LT L3
      go_enter Try.func4, Try.ntmps4
      go_wp2
      refine wp_region_below (by kernel_rfl) (by kernel_rfl) ?_
      repeat first | go_big_quiet_skip | (go_big_quiet_want; go_big_quiet_op; go_big_quiet_on) | (go_big_quiet_want; rename_i K hK; apply quiet_mk; (focus (intro w1 hw1; have hc1 := (bcell hw1).1; have hf1 := (bcell hw1).2; go_simp; first | done | rfl | (first | (go_at_call 11; (with_reducible refine (C1.out _).mono ?_); rintro e w2 ⟨rfl, hb2⟩; exact ⟨rfl, (hw1.trans (hb2.mono hw1.size)).mono (by simp)⟩) | (go_at_call 11; (with_reducible refine (C2.out _).mono ?_); rintro e w2 ⟨rfl, hb2⟩; exact ⟨rfl, (hw1.trans (hb2.mono hw1.size)).mono (by simp)⟩)))); refine hK _ ?_; clear hK K; try simp only [Act.put, List.setIfInBounds_toArray, List.set_cons_zero, List.set_cons_succ])
      refine wpQuiet_nil ?_
      intro wa hb_wa
      have hc_wa := (bcell hb_wa).1
      have hf_wa := (bcell hb_wa).2
      have hz_wa_0 : w.heap.size < wa.heap.size := by have h_ := hb_wa.size; (try simp at h_); omega
      have hz_wa_1 : w.heap.size + 1 < wa.heap.size := by have h_ := hb_wa.size; (try simp at h_); omega
      have hz_wa_2 : w.heap.size + 1 + 1 < wa.heap.size := by have h_ := hb_wa.size; (try simp at h_); omega
      go_wp2
      refine wp_region_below (by kernel_rfl) (by kernel_rfl) ?_
      repeat first | go_big_quiet_skip | (go_big_quiet_want; go_big_quiet_op; go_big_quiet_on) | (go_big_quiet_want; rename_i K hK; apply quiet_mk; (focus (intro w1 hw1; have hc1 := (bcell hw1).1; have hf1 := (bcell hw1).2; go_simp; first | done | rfl | (first | (go_at_call 11; (with_reducible refine (C1.out _).mono ?_); rintro e w2 ⟨rfl, hb2⟩; exact ⟨rfl, (hw1.trans (hb2.mono hw1.size)).mono (by simp)⟩) | (go_at_call 12; (with_reducible refine (L1.out _).mono ?_); rintro e w2 ⟨rfl, hb2⟩; exact ⟨rfl, (hw1.trans (hb2.mono hw1.size)).mono (by simp)⟩)))); refine hK _ ?_; clear hK K; try simp only [Act.put, List.setIfInBounds_toArray, List.set_cons_zero, List.set_cons_succ])
      refine wpQuiet_nil ?_
      intro wb hb_wb
      have hc_wb := (bcell hb_wb).1
      have hf_wb := (bcell hb_wb).2
      have hz_wb_0 : w.heap.size < wb.heap.size := by have h_ := hb_wb.size; (try simp at h_); omega
      have hz_wb_1 : w.heap.size + 1 < wb.heap.size := by have h_ := hb_wb.size; (try simp at h_); omega
      have hz_wb_2 : w.heap.size + 1 + 1 < wb.heap.size := by have h_ := hb_wb.size; (try simp at h_); omega
      go_wp2_with fail
      refine (L1.out _).mono ?_
      rintro e wc ⟨rfl, hb_wc⟩
      have hc_wc := (bcell hb_wc).1
      have hf_wc := (bcell hb_wc).2
      have hz_wc_0 : w.heap.size < wc.heap.size := by have h_ := hb_wc.size; (try simp at h_); omega
      have hz_wc_1 : w.heap.size + 1 < wc.heap.size := by have h_ := hb_wc.size; (try simp at h_); omega
      have hz_wc_2 : w.heap.size + 1 + 1 < wc.heap.size := by have h_ := hb_wc.size; (try simp at h_); omega
      go_wp2_with fail
      refine (L2.out _).mono ?_
      rintro e wd ⟨rfl, hb_wd⟩
      have hc_wd := (bcell hb_wd).1
      have hf_wd := (bcell hb_wd).2
      have hz_wd_0 : w.heap.size < wd.heap.size := by have h_ := hb_wd.size; (try simp at h_); omega
      have hz_wd_1 : w.heap.size + 1 < wd.heap.size := by have h_ := hb_wd.size; (try simp at h_); omega
      have hz_wd_2 : w.heap.size + 1 + 1 < wd.heap.size := by have h_ := hb_wd.size; (try simp at h_); omega
      go_wp2
      go_ret
      exact ⟨rfl, (Below.on (Below.on (Below.on (Below.on (by repeat (first | exact Below.refl _ _ | refine Below.alloc ?_ (by first | (simp; done) | (simp; omega)) _ | refine Below.drew ?_)) hb_wa) hb_wb) hb_wc) hb_wd)⟩
    · rw [h2] at L2
      rw [LT.out rfl h2] at L3
      clear h2 LT
      go_enter Try.func4, Try.ntmps4
      go_wp2
      refine wp_region_below (by kernel_rfl) (by kernel_rfl) ?_
      repeat first | go_big_quiet_skip | (go_big_quiet_want; go_big_quiet_op; go_big_quiet_on) | (go_big_quiet_want; rename_i K hK; apply quiet_mk; (focus (intro w1 hw1; have hc1 := (bcell hw1).1; have hf1 := (bcell hw1).2; go_simp; first | done | rfl | (first | (go_at_call 11; (with_reducible refine (C1.out _).mono ?_); rintro e w2 ⟨rfl, hb2⟩; exact ⟨rfl, (hw1.trans (hb2.mono hw1.size)).mono (by simp)⟩) | (go_at_call 11; (with_reducible refine (C2.out _).mono ?_); rintro e w2 ⟨rfl, hb2⟩; exact ⟨rfl, (hw1.trans (hb2.mono hw1.size)).mono (by simp)⟩)))); refine hK _ ?_; clear hK K; try simp only [Act.put, List.setIfInBounds_toArray, List.set_cons_zero, List.set_cons_succ])
      refine wpQuiet_nil ?_
      intro wa hb_wa
      have hc_wa := (bcell hb_wa).1
      have hf_wa := (bcell hb_wa).2
      have hz_wa_0 : w.heap.size < wa.heap.size := by have h_ := hb_wa.size; (try simp at h_); omega
      have hz_wa_1 : w.heap.size + 1 < wa.heap.size := by have h_ := hb_wa.size; (try simp at h_); omega
      have hz_wa_2 : w.heap.size + 1 + 1 < wa.heap.size := by have h_ := hb_wa.size; (try simp at h_); omega
      go_wp2
      refine wp_region_below (by kernel_rfl) (by kernel_rfl) ?_
      repeat first | go_big_quiet_skip | (go_big_quiet_want; go_big_quiet_op; go_big_quiet_on) | (go_big_quiet_want; rename_i K hK; apply quiet_mk; (focus (intro w1 hw1; have hc1 := (bcell hw1).1; have hf1 := (bcell hw1).2; go_simp; first | done | rfl | (first | (go_at_call 11; (with_reducible refine (C1.out _).mono ?_); rintro e w2 ⟨rfl, hb2⟩; exact ⟨rfl, (hw1.trans (hb2.mono hw1.size)).mono (by simp)⟩) | (go_at_call 12; (with_reducible refine (L1.out _).mono ?_); rintro e w2 ⟨rfl, hb2⟩; exact ⟨rfl, (hw1.trans (hb2.mono hw1.size)).mono (by simp)⟩)))); refine hK _ ?_; clear hK K; try simp only [Act.put, List.setIfInBounds_toArray, List.set_cons_zero, List.set_cons_succ])
      refine wpQuiet_nil ?_
      intro wb hb_wb
      have hc_wb := (bcell hb_wb).1
      have hf_wb := (bcell hb_wb).2
      have hz_wb_0 : w.heap.size < wb.heap.size := by have h_ := hb_wb.size; (try simp at h_); omega
      have hz_wb_1 : w.heap.size + 1 < wb.heap.size := by have h_ := hb_wb.size; (try simp at h_); omega
      have hz_wb_2 : w.heap.size + 1 + 1 < wb.heap.size := by have h_ := hb_wb.size; (try simp at h_); omega
      go_wp2_with fail
      refine (L1.out _).mono ?_
      rintro e wc ⟨rfl, hb_wc⟩
      have hc_wc := (bcell hb_wc).1
      have hf_wc := (bcell hb_wc).2
      have hz_wc_0 : w.heap.size < wc.heap.size := by have h_ := hb_wc.size; (try simp at h_); omega
      have hz_wc_1 : w.heap.size + 1 < wc.heap.size := by have h_ := hb_wc.size; (try simp at h_); omega
      have hz_wc_2 : w.heap.size + 1 + 1 < wc.heap.size := by have h_ := hb_wc.size; (try simp at h_); omega
      go_wp2_with fail
      refine (L2.out _).mono ?_
      rintro e wd ⟨rfl, hb_wd⟩
      have hc_wd := (bcell hb_wd).1
      have hf_wd := (bcell hb_wd).2
      have hz_wd_0 : w.heap.size < wd.heap.size := by have h_ := hb_wd.size; (try simp at h_); omega
      have hz_wd_1 : w.heap.size + 1 < wd.heap.size := by have h_ := hb_wd.size; (try simp at h_); omega
      have hz_wd_2 : w.heap.size + 1 + 1 < wd.heap.size := by have h_ := hb_wd.size; (try simp at h_); omega
      go_wp2_with fail
      refine (L3.out _).mono ?_
      rintro e we ⟨rfl, hb_we⟩
      have hc_we := (bcell hb_we).1
      have hf_we := (bcell hb_we).2
      go_wp2
      go_ret
      exact ⟨rfl, (Below.on (Below.on (Below.on (Below.on (Below.on (by repeat (first | exact Below.refl _ _ | refine Below.alloc ?_ (by first | (simp; done) | (simp; omega)) _ | refine Below.drew ?_)) hb_wa) hb_wb) hb_wc) hb_wd) hb_we)⟩
  · have hd : decide (an < bn) = false := by simp; omega
    rw [cmpB_of_gt (.inl h)] at C1
    rw [cmpB_of_lt (.inl h)] at C2
    rw [lessB_false.2 (by omega)] at L1
    have hne : ¬ an = bn := by omega
    clear L2 L3 LT
    go_enter Try.func4, Try.ntmps4
    go_wp2
    refine wp_region_below (by kernel_rfl) (by kernel_rfl) ?_
    repeat first | go_big_quiet_skip | (go_big_quiet_want; go_big_quiet_op; go_big_quiet_on) | (go_big_quiet_want; rename_i K hK; apply quiet_mk; (focus (intro w1 hw1; have hc1 := (bcell hw1).1; have hf1 := (bcell hw1).2; go_simp; first | done | rfl | (first | (go_at_call 11; (with_reducible refine (C1.out _).mono ?_); rintro e w2 ⟨rfl, hb2⟩; exact ⟨rfl, (hw1.trans (hb2.mono hw1.size)).mono (by simp)⟩) | (go_at_call 11; (with_reducible refine (C2.out _).mono ?_); rintro e w2 ⟨rfl, hb2⟩; exact ⟨rfl, (hw1.trans (hb2.mono hw1.size)).mono (by simp)⟩)))); refine hK _ ?_; clear hK K; try simp only [Act.put, List.setIfInBounds_toArray, List.set_cons_zero, List.set_cons_succ])
    refine wpQuiet_nil ?_
    intro wa hb_wa
    have hc_wa := (bcell hb_wa).1
    have hf_wa := (bcell hb_wa).2
    have hz_wa_0 : w.heap.size < wa.heap.size := by have h_ := hb_wa.size; (try simp at h_); omega
    have hz_wa_1 : w.heap.size + 1 < wa.heap.size := by have h_ := hb_wa.size; (try simp at h_); omega
    have hz_wa_2 : w.heap.size + 1 + 1 < wa.heap.size := by have h_ := hb_wa.size; (try simp at h_); omega
    go_wp2
    refine wp_region_below (by kernel_rfl) (by kernel_rfl) ?_
    repeat first | go_big_quiet_skip | (go_big_quiet_want; go_big_quiet_op; go_big_quiet_on) | (go_big_quiet_want; rename_i K hK; apply quiet_mk; (focus (intro w1 hw1; have hc1 := (bcell hw1).1; have hf1 := (bcell hw1).2; go_simp; first | done | rfl | (first | (go_at_call 11; (with_reducible refine (C1.out _).mono ?_); rintro e w2 ⟨rfl, hb2⟩; exact ⟨rfl, (hw1.trans (hb2.mono hw1.size)).mono (by simp)⟩) | (go_at_call 12; (with_reducible refine (L1.out _).mono ?_); rintro e w2 ⟨rfl, hb2⟩; exact ⟨rfl, (hw1.trans (hb2.mono hw1.size)).mono (by simp)⟩)))); refine hK _ ?_; clear hK K; try simp only [Act.put, List.setIfInBounds_toArray, List.set_cons_zero, List.set_cons_succ])
    refine wpQuiet_nil ?_
    intro wb hb_wb
    have hc_wb := (bcell hb_wb).1
    have hf_wb := (bcell hb_wb).2
    have hz_wb_0 : w.heap.size < wb.heap.size := by have h_ := hb_wb.size; (try simp at h_); omega
    have hz_wb_1 : w.heap.size + 1 < wb.heap.size := by have h_ := hb_wb.size; (try simp at h_); omega
    have hz_wb_2 : w.heap.size + 1 + 1 < wb.heap.size := by have h_ := hb_wb.size; (try simp at h_); omega
    go_wp2_with fail
    refine (L1.out _).mono ?_
    rintro e wc ⟨rfl, hb_wc⟩
    have hc_wc := (bcell hb_wc).1
    have hf_wc := (bcell hb_wc).2
    have hz_wc_0 : w.heap.size < wc.heap.size := by have h_ := hb_wc.size; (try simp at h_); omega
    have hz_wc_1 : w.heap.size + 1 < wc.heap.size := by have h_ := hb_wc.size; (try simp at h_); omega
    have hz_wc_2 : w.heap.size + 1 + 1 < wc.heap.size := by have h_ := hb_wc.size; (try simp at h_); omega
    go_wp2
    go_ret
    exact ⟨rfl, (Below.on (Below.on (Below.on (by repeat (first | exact Below.refl _ _ | refine Below.alloc ?_ (by first | (simp; done) | (simp; omega)) _ | refine Below.drew ?_)) hb_wa) hb_wb) hb_wc)⟩
  · rw [cmpB_of_lt (.inr ⟨rfl, h⟩)] at C1
    rw [cmpB_of_gt (.inr ⟨rfl, h⟩)] at C2
    rw [lessB_true.2 (.inr ⟨rfl, h⟩)] at L1 LT
    have hne : ¬ ad = bd := by omega
    cases h2 : lessB an bd cn cd
    · rw [h2] at L2
      clear h2 LT L3
      go_enter Try.func4, Try.ntmps4
      go_wp2
      refine wp_region_below (by kernel_rfl) (by kernel_rfl) ?_
      repeat first | go_big_quiet_skip | (go_big_quiet_want; go_big_quiet_op; go_big_quiet_on) | (go_big_quiet_want; rename_i K hK; apply quiet_mk; (focus (intro w1 hw1; have hc1 := (bcell hw1).1; have hf1 := (bcell hw1).2; go_simp; first | done | rfl | (first | (go_at_call 11; (with_reducible refine (C1.out _).mono ?_); rintro e w2 ⟨rfl, hb2⟩; exact ⟨rfl, (hw1.trans (hb2.mono hw1.size)).mono (by simp)⟩) | (go_at_call 11; (with_reducible refine (C2.out _).mono ?_); rintro e w2 ⟨rfl, hb2⟩; exact ⟨rfl, (hw1.trans (hb2.mono hw1.size)).mono (by simp)⟩)))); refine hK _ ?_; clear hK K; try simp only [Act.put, List.setIfInBounds_toArray, List.set_cons_zero, List.set_cons_succ])
      refine wpQuiet_nil ?_
      intro wa hb_wa
      have hc_wa := (bcell hb_wa).1
      have hf_wa := (bcell hb_wa).2
      have hz_wa_0 : w.heap.size < wa.heap.size := by have h_ := hb_wa.size; (try simp at h_); omega
      have hz_wa_1 : w.heap.size + 1 < wa.heap.size := by have h_ := hb_wa.size; (try simp at h_); omega
      have hz_wa_2 : w.heap.size + 1 + 1 < wa.heap.size := by have h_ := hb_wa.size; (try simp at h_); omega
      go_wp2
      refine wp_region_below (by kernel_rfl) (by kernel_rfl) ?_
      repeat first | go_big_quiet_skip | (go_big_quiet_want; go_big_quiet_op; go_big_quiet_on) | (go_big_quiet_want; rename_i K hK; apply quiet_mk; (focus (intro w1 hw1; have hc1 := (bcell hw1).1; have hf1 := (bcell hw1).2; go_simp; first | done | rfl | (first | (go_at_call 11; (with_reducible refine (C1.out _).mono ?_); rintro e w2 ⟨rfl, hb2⟩; exact ⟨rfl, (hw1.trans (hb2.mono hw1.size)).mono (by simp)⟩) | (go_at_call 12; (with_reducible refine (L1.out _).mono ?_); rintro e w2 ⟨rfl, hb2⟩; exact ⟨rfl, (hw1.trans (hb2.mono hw1.size)).mono (by simp)⟩)))); refine hK _ ?_; clear hK K; try simp only [Act.put, List.setIfInBounds_toArray, List.set_cons_zero, List.set_cons_succ])
      refine wpQuiet_nil ?_
      intro wb hb_wb
      have hc_wb := (bcell hb_wb).1
      have hf_wb := (bcell hb_wb).2
      have hz_wb_0 : w.heap.size < wb.heap.size := by have h_ := hb_wb.size; (try simp at h_); omega
      have hz_wb_1 : w.heap.size + 1 < wb.heap.size := by have h_ := hb_wb.size; (try simp at h_); omega
      have hz_wb_2 : w.heap.size + 1 + 1 < wb.heap.size := by have h_ := hb_wb.size; (try simp at h_); omega
      go_wp2_with fail
      refine (L1.out _).mono ?_
      rintro e wc ⟨rfl, hb_wc⟩
      have hc_wc := (bcell hb_wc).1
      have hf_wc := (bcell hb_wc).2
      have hz_wc_0 : w.heap.size < wc.heap.size := by have h_ := hb_wc.size; (try simp at h_); omega
      have hz_wc_1 : w.heap.size + 1 < wc.heap.size := by have h_ := hb_wc.size; (try simp at h_); omega
      have hz_wc_2 : w.heap.size + 1 + 1 < wc.heap.size := by have h_ := hb_wc.size; (try simp at h_); omega
      go_wp2_with fail
      refine (L2.out _).mono ?_
      rintro e wd ⟨rfl, hb_wd⟩
      have hc_wd := (bcell hb_wd).1
      have hf_wd := (bcell hb_wd).2
      have hz_wd_0 : w.heap.size < wd.heap.size := by have h_ := hb_wd.size; (try simp at h_); omega
      have hz_wd_1 : w.heap.size + 1 < wd.heap.size := by have h_ := hb_wd.size; (try simp at h_); omega
      have hz_wd_2 : w.heap.size + 1 + 1 < wd.heap.size := by have h_ := hb_wd.size; (try simp at h_); omega
      go_wp2
      go_ret
      exact ⟨rfl, (Below.on (Below.on (Below.on (Below.on (by repeat (first | exact Below.refl _ _ | refine Below.alloc ?_ (by first | (simp; done) | (simp; omega)) _ | refine Below.drew ?_)) hb_wa) hb_wb) hb_wc) hb_wd)⟩
    · rw [h2] at L2
      rw [LT.out rfl h2] at L3
      clear h2 LT
      go_enter Try.func4, Try.ntmps4
      go_wp2
      refine wp_region_below (by kernel_rfl) (by kernel_rfl) ?_
      repeat first | go_big_quiet_skip | (go_big_quiet_want; go_big_quiet_op; go_big_quiet_on) | (go_big_quiet_want; rename_i K hK; apply quiet_mk; (focus (intro w1 hw1; have hc1 := (bcell hw1).1; have hf1 := (bcell hw1).2; go_simp; first | done | rfl | (first | (go_at_call 11; (with_reducible refine (C1.out _).mono ?_); rintro e w2 ⟨rfl, hb2⟩; exact ⟨rfl, (hw1.trans (hb2.mono hw1.size)).mono (by simp)⟩) | (go_at_call 11; (with_reducible refine (C2.out _).mono ?_); rintro e w2 ⟨rfl, hb2⟩; exact ⟨rfl, (hw1.trans (hb2.mono hw1.size)).mono (by simp)⟩)))); refine hK _ ?_; clear hK K; try simp only [Act.put, List.setIfInBounds_toArray, List.set_cons_zero, List.set_cons_succ])
      refine wpQuiet_nil ?_
      intro wa hb_wa
      have hc_wa := (bcell hb_wa).1
      have hf_wa := (bcell hb_wa).2
      have hz_wa_0 : w.heap.size < wa.heap.size := by have h_ := hb_wa.size; (try simp at h_); omega
      have hz_wa_1 : w.heap.size + 1 < wa.heap.size := by have h_ := hb_wa.size; (try simp at h_); omega
      have hz_wa_2 : w.heap.size + 1 + 1 < wa.heap.size := by have h_ := hb_wa.size; (try simp at h_); omega
      go_wp2
      refine wp_region_below (by kernel_rfl) (by kernel_rfl) ?_
      repeat first | go_big_quiet_skip | (go_big_quiet_want; go_big_quiet_op; go_big_quiet_on) | (go_big_quiet_want; rename_i K hK; apply quiet_mk; (focus (intro w1 hw1; have hc1 := (bcell hw1).1; have hf1 := (bcell hw1).2; go_simp; first | done | rfl | (first | (go_at_call 11; (with_reducible refine (C1.out _).mono ?_); rintro e w2 ⟨rfl, hb2⟩; exact ⟨rfl, (hw1.trans (hb2.mono hw1.size)).mono (by simp)⟩) | (go_at_call 12; (with_reducible refine (L1.out _).mono ?_); rintro e w2 ⟨rfl, hb2⟩; exact ⟨rfl, (hw1.trans (hb2.mono hw1.size)).mono (by simp)⟩)))); refine hK _ ?_; clear hK K; try simp only [Act.put, List.setIfInBounds_toArray, List.set_cons_zero, List.set_cons_succ])
      refine wpQuiet_nil ?_
      intro wb hb_wb
      have hc_wb := (bcell hb_wb).1
      have hf_wb := (bcell hb_wb).2
      have hz_wb_0 : w.heap.size < wb.heap.size := by have h_ := hb_wb.size; (try simp at h_); omega
      have hz_wb_1 : w.heap.size + 1 < wb.heap.size := by have h_ := hb_wb.size; (try simp at h_); omega
      have hz_wb_2 : w.heap.size + 1 + 1 < wb.heap.size := by have h_ := hb_wb.size; (try simp at h_); omega
      go_wp2_with fail
      refine (L1.out _).mono ?_
      rintro e wc ⟨rfl, hb_wc⟩
      have hc_wc := (bcell hb_wc).1
      have hf_wc := (bcell hb_wc).2
      have hz_wc_0 : w.heap.size < wc.heap.size := by have h_ := hb_wc.size; (try simp at h_); omega
      have hz_wc_1 : w.heap.size + 1 < wc.heap.size := by have h_ := hb_wc.size; (try simp at h_); omega
      have hz_wc_2 : w.heap.size + 1 + 1 < wc.heap.size := by have h_ := hb_wc.size; (try simp at h_); omega
      go_wp2_with fail
      refine (L2.out _).mono ?_
      rintro e wd ⟨rfl, hb_wd⟩
      have hc_wd := (bcell hb_wd).1
      have hf_wd := (bcell hb_wd).2
      have hz_wd_0 : w.heap.size < wd.heap.size := by have h_ := hb_wd.size; (try simp at h_); omega
      have hz_wd_1 : w.heap.size + 1 < wd.heap.size := by have h_ := hb_wd.size; (try simp at h_); omega
      have hz_wd_2 : w.heap.size + 1 + 1 < wd.heap.size := by have h_ := hb_wd.size; (try simp at h_); omega
      go_wp2_with fail
      refine (L3.out _).mono ?_
      rintro e we ⟨rfl, hb_we⟩
      have hc_we := (bcell hb_we).1
      have hf_we := (bcell hb_we).2
      go_wp2
      go_ret
      exact ⟨rfl, (Below.on (Below.on (Below.on (Below.on (Below.on (by repeat (first | exact Below.refl _ _ | refine Below.alloc ?_ (by first | (simp; done) | (simp; omega)) _ | refine Below.drew ?_)) hb_wa) hb_wb) hb_wc) hb_wd) hb_we)⟩
  · rw [cmpB_of_gt (.inr ⟨rfl, h⟩)] at C1
    rw [cmpB_of_lt (.inr ⟨rfl, h⟩)] at C2
    rw [lessB_false.2 (by omega)] at L1
    have hne : ¬ ad = bd := by omega
    clear L2 L3 LT
    go_enter Try.func4, Try.ntmps4
    go_wp2
    refine wp_region_below (by kernel_rfl) (by kernel_rfl) ?_
    repeat first | go_big_quiet_skip | (go_big_quiet_want; go_big_quiet_op; go_big_quiet_on) | (go_big_quiet_want; rename_i K hK; apply quiet_mk; (focus (intro w1 hw1; have hc1 := (bcell hw1).1; have hf1 := (bcell hw1).2; go_simp; first | done | rfl | (first | (go_at_call 11; (with_reducible refine (C1.out _).mono ?_); rintro e w2 ⟨rfl, hb2⟩; exact ⟨rfl, (hw1.trans (hb2.mono hw1.size)).mono (by simp)⟩) | (go_at_call 11; (with_reducible refine (C2.out _).mono ?_); rintro e w2 ⟨rfl, hb2⟩; exact ⟨rfl, (hw1.trans (hb2.mono hw1.size)).mono (by simp)⟩)))); refine hK _ ?_; clear hK K; try simp only [Act.put, List.setIfInBounds_toArray, List.set_cons_zero, List.set_cons_succ])
    refine wpQuiet_nil ?_
    intro wa hb_wa
    have hc_wa := (bcell hb_wa).1
    have hf_wa := (bcell hb_wa).2
    have hz_wa_0 : w.heap.size < wa.heap.size := by have h_ := hb_wa.size; (try simp at h_); omega
    have hz_wa_1 : w.heap.size + 1 < wa.heap.size := by have h_ := hb_wa.size; (try simp at h_); omega
    have hz_wa_2 : w.heap.size + 1 + 1 < wa.heap.size := by have h_ := hb_wa.size; (try simp at h_); omega
    go_wp2
    refine wp_region_below (by kernel_rfl) (by kernel_rfl) ?_
    repeat first | go_big_quiet_skip | (go_big_quiet_want; go_big_quiet_op; go_big_quiet_on) | (go_big_quiet_want; rename_i K hK; apply quiet_mk; (focus (intro w1 hw1; have hc1 := (bcell hw1).1; have hf1 := (bcell hw1).2; go_simp; first | done | rfl | (first | (go_at_call 11; (with_reducible refine (C1.out _).mono ?_); rintro e w2 ⟨rfl, hb2⟩; exact ⟨rfl, (hw1.trans (hb2.mono hw1.size)).mono (by simp)⟩) | (go_at_call 12; (with_reducible refine (L1.out _).mono ?_); rintro e w2 ⟨rfl, hb2⟩; exact ⟨rfl, (hw1.trans (hb2.mono hw1.size)).mono (by simp)⟩)))); refine hK _ ?_; clear hK K; try simp only [Act.put, List.setIfInBounds_toArray, List.set_cons_zero, List.set_cons_succ])
    refine wpQuiet_nil ?_
    intro wb hb_wb
    have hc_wb := (bcell hb_wb).1
    have hf_wb := (bcell hb_wb).2
    have hz_wb_0 : w.heap.size < wb.heap.size := by have h_ := hb_wb.size; (try simp at h_); omega
    have hz_wb_1 : w.heap.size + 1 < wb.heap.size := by have h_ := hb_wb.size; (try simp at h_); omega
    have hz_wb_2 : w.heap.size + 1 + 1 < wb.heap.size := by have h_ := hb_wb.size; (try simp at h_); omega
    go_wp2_with fail
    refine (L1.out _).mono ?_
    rintro e wc ⟨rfl, hb_wc⟩
    have hc_wc := (bcell hb_wc).1
    have hf_wc := (bcell hb_wc).2
    have hz_wc_0 : w.heap.size < wc.heap.size := by have h_ := hb_wc.size; (try simp at h_); omega
    have hz_wc_1 : w.heap.size + 1 < wc.heap.size := by have h_ := hb_wc.size; (try simp at h_); omega
    have hz_wc_2 : w.heap.size + 1 + 1 < wc.heap.size := by have h_ := hb_wc.size; (try simp at h_); omega
    go_wp2
    go_ret
    exact ⟨rfl, (Below.on (Below.on (Below.on (by repeat (first | exact Below.refl _ _ | refine Below.alloc ?_ (by first | (simp; done) | (simp; omega)) _ | refine Below.drew ?_)) hb_wa) hb_wb) hb_wc)⟩
  · rw [cmpB_eq, cmpI_eq] at C1 C2
    rw [lessB_false.2 (by omega)] at L1
    clear L2 L3 LT
    go_enter Try.func4, Try.ntmps4
    go_wp2
    refine wp_region_below (by kernel_rfl) (by kernel_rfl) ?_
    repeat first | go_big_quiet_skip | (go_big_quiet_want; go_big_quiet_op; go_big_quiet_on) | (go_big_quiet_want; rename_i K hK; apply quiet_mk; (focus (intro w1 hw1; have hc1 := (bcell hw1).1; have hf1 := (bcell hw1).2; go_simp; first | done | rfl | (first | (go_at_call 11; (with_reducible refine (C1.out _).mono ?_); rintro e w2 ⟨rfl, hb2⟩; exact ⟨rfl, (hw1.trans (hb2.mono hw1.size)).mono (by simp)⟩) | (go_at_call 11; (with_reducible refine (C2.out _).mono ?_); rintro e w2 ⟨rfl, hb2⟩; exact ⟨rfl, (hw1.trans (hb2.mono hw1.size)).mono (by simp)⟩)))); refine hK _ ?_; clear hK K; try simp only [Act.put, List.setIfInBounds_toArray, List.set_cons_zero, List.set_cons_succ])
    refine wpQuiet_nil ?_
    intro wa hb_wa
    have hc_wa := (bcell hb_wa).1
    have hf_wa := (bcell hb_wa).2
    have hz_wa_0 : w.heap.size < wa.heap.size := by have h_ := hb_wa.size; (try simp at h_); omega
    have hz_wa_1 : w.heap.size + 1 < wa.heap.size := by have h_ := hb_wa.size; (try simp at h_); omega
    have hz_wa_2 : w.heap.size + 1 + 1 < wa.heap.size := by have h_ := hb_wa.size; (try simp at h_); omega
    go_wp2
    refine wp_region_below (by kernel_rfl) (by kernel_rfl) ?_
    repeat first | go_big_quiet_skip | (go_big_quiet_want; go_big_quiet_op; go_big_quiet_on) | (go_big_quiet_want; rename_i K hK; apply quiet_mk; (focus (intro w1 hw1; have hc1 := (bcell hw1).1; have hf1 := (bcell hw1).2; go_simp; first | done | rfl | (first | (go_at_call 11; (with_reducible refine (C1.out _).mono ?_); rintro e w2 ⟨rfl, hb2⟩; exact ⟨rfl, (hw1.trans (hb2.mono hw1.size)).mono (by simp)⟩) | (go_at_call 12; (with_reducible refine (L1.out _).mono ?_); rintro e w2 ⟨rfl, hb2⟩; exact ⟨rfl, (hw1.trans (hb2.mono hw1.size)).mono (by simp)⟩)))); refine hK _ ?_; clear hK K; try simp only [Act.put, List.setIfInBounds_toArray, List.set_cons_zero, List.set_cons_succ])
    refine wpQuiet_nil ?_
    intro wb hb_wb
    have hc_wb := (bcell hb_wb).1
    have hf_wb := (bcell hb_wb).2
    have hz_wb_0 : w.heap.size < wb.heap.size := by have h_ := hb_wb.size; (try simp at h_); omega
    have hz_wb_1 : w.heap.size + 1 < wb.heap.size := by have h_ := hb_wb.size; (try simp at h_); omega
    have hz_wb_2 : w.heap.size + 1 + 1 < wb.heap.size := by have h_ := hb_wb.size; (try simp at h_); omega
    go_wp2_with fail
    refine (L1.out _).mono ?_
    rintro e wc ⟨rfl, hb_wc⟩
    have hc_wc := (bcell hb_wc).1
    have hf_wc := (bcell hb_wc).2
    have hz_wc_0 : w.heap.size < wc.heap.size := by have h_ := hb_wc.size; (try simp at h_); omega
    have hz_wc_1 : w.heap.size + 1 < wc.heap.size := by have h_ := hb_wc.size; (try simp at h_); omega
    have hz_wc_2 : w.heap.size + 1 + 1 < wc.heap.size := by have h_ := hb_wc.size; (try simp at h_); omega
    go_wp2
    go_ret
    exact ⟨rfl, (Below.on (Below.on (Below.on (by repeat (first | exact Below.refl _ _ | refine Below.alloc ?_ (by first | (simp; done) | (simp; omega)) _ | refine Below.drew ?_)) hb_wa) hb_wb) hb_wc)⟩
set_option linter.unusedVariables false in
theorem total_law (an ad bn bd cn cd : Int) (w : World) (_h1 : (Lit.int .u64 an).wf = true) (_h2 : (Lit.int .i64 ad).wf = true) (_h3 : (Lit.int .u64 bn).wf = true) (_h4 : (Lit.int .i64 bd).wf = true) (_h5 : (Lit.int .u64 cn).wf = true) (_h6 : (Lit.int .i64 cd).wf = true) :
    Calls Try.prog 4 #[.agg #[.int .u64 an, .int .i64 ad], .agg #[.int .u64 bn, .int .i64 bd], .agg #[.int .u64 cn, .int .i64 cd]] w fun e w' => e = .returned (.bool true) ∧ Below w.heap.size w w' := total_walk an ad bn bd cn cd w
end Go.Proofs.Ytehmbcpgendkjaa
