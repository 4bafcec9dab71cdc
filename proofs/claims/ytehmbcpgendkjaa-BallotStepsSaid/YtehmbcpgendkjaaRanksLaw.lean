import Derived.Test.YtehmbcpgendkjaaMade
namespace Go.Proofs.Ytehmbcpgendkjaa
open Go.RowKit
set_option linter.unusedSimpArgs false
set_option linter.unusedVariables false
theorem validB_iff {c : Cfg} {n d : Int} : validB c n d = true ↔ (n = 0 ∧ d = 0 ∨ 1 ≤ n ∧ n ≤ c.mn ∧ 0 ≤ d ∧ d < 2 * c.f + 1) := by simp [validB]
theorem three {c : Cfg} (h1 : 1 ≤ c.f) (h2 : c.f ≤ 3) : c.f = 1 ∨ c.f = 2 ∨ c.f = 3 := by omega
theorem rank_less {c : Cfg} {an ad bn bd : Int} (h1 : 1 ≤ c.f) (h2 : c.f ≤ 3) (ha : validB c an ad = true) (hb : validB c bn bd = true) : rankB c an ad < rankB c bn bd ↔ lessB an ad bn bd = true := by
  rw [validB_iff] at ha hb
  rw [lessB_true]
  have h3 := three h1 h2
  unfold rankB
  obtain ⟨f, _, _, _, _, _, _, _, mn, _⟩ := c
  simp only at *
  rcases h3 with rfl | rfl | rfl <;> split <;> split <;> omega
theorem ranked_rank {c : Cfg} {n d : Int} (h1 : 1 ≤ c.f) (h2 : c.f ≤ 3) (hm : 1 ≤ c.mn) (h : validB c n d = true) : rankedB c (rankB c n d) = some (n, d) := by
  rw [validB_iff] at h
  have h3 := three h1 h2
  obtain ⟨f, _, _, _, _, _, _, _, mn, _⟩ := c
  unfold rankedB rankB
  simp only at *
  by_cases hn : n = 0
  · rw [if_pos hn, if_pos rfl, if_neg (by rcases h3 with rfl | rfl | rfl <;> omega)]
    have : d = 0 := by omega
    rw [hn, this]
  · rw [if_neg hn]
    rcases h3 with rfl | rfl | rfl <;> (rw [if_neg (by omega), if_neg (by omega)]; congr 1; ext <;> simp <;> omega)
theorem next_none {c : Cfg} {n d : Int} (h1 : 1 ≤ c.f) (h2 : c.f ≤ 3) (h : validB c n d = true) (hx : nextB c n d = none) : rankB c n d = c.mn * (2 * c.f + 1) := by
  rw [validB_iff] at h
  have h3 := three h1 h2
  obtain ⟨f, _, _, _, _, _, _, _, mn, _⟩ := c
  unfold nextB at hx
  unfold rankB
  simp only at *
  split at hx
  · simp at hx
  · split at hx
    · simp at hx
    · split at hx
      · rcases h3 with rfl | rfl | rfl <;> rw [if_neg (by omega)] <;> omega
      · simp at hx
theorem next_some {c : Cfg} {n d x y : Int} (h1 : 1 ≤ c.f) (h2 : c.f ≤ 3) (hm : 1 ≤ c.mn) (h : validB c n d = true) (hx : nextB c n d = some (x, y)) : validB c x y = true ∧ rankB c x y = rankB c n d + 1 ∧ 0 ≤ x := by
  rw [validB_iff] at h
  rw [validB_iff]
  have h3 := three h1 h2
  obtain ⟨f, _, _, _, _, _, _, _, mn, _⟩ := c
  unfold nextB at hx
  unfold rankB
  simp only at *
  split at hx
  · simp only [Option.some.injEq, Prod.mk.injEq] at hx
    rw [if_neg (show ¬ x = 0 by omega), if_pos ‹n = 0›]
    rcases h3 with rfl | rfl | rfl <;> omega
  · split at hx
    · simp only [Option.some.injEq, Prod.mk.injEq] at hx
      rw [if_neg (show ¬ x = 0 by omega), if_neg ‹¬ n = 0›]
      rcases h3 with rfl | rfl | rfl <;> omega
    · split at hx
      · simp at hx
      · simp only [Option.some.injEq, Prod.mk.injEq] at hx
        rw [if_neg (show ¬ x = 0 by omega), if_neg ‹¬ n = 0›]
        rcases h3 with rfl | rfl | rfl <;> omega
theorem rank_range {c : Cfg} {n d : Int} (h1 : 1 ≤ c.f) (h2 : c.f ≤ 3) (hm : c.mn ≤ 1099511627776) (h : validB c n d = true) : 0 ≤ rankB c n d ∧ rankB c n d ≤ 7696581394432 := by
  rw [validB_iff] at h
  have h3 := three h1 h2
  obtain ⟨f, _, _, _, _, _, _, _, mn, _⟩ := c
  unfold rankB
  simp only at *
  rcases h3 with rfl | rfl | rfl <;> split <;> omega
set_option maxHeartbeats 3200000 in
theorem ranks_walk (c : Cfg) (an ad bn bd : Int) (w : World) (ok : c.Ok) (h1 : 0 ≤ an) (h2 : 0 ≤ bn) :
    Calls Try.prog 8 #[.agg #[.int .i64 c.f, .int .i64 c.mb, .int .u64 c.dl, .int .u64 c.wd, .int .u64 c.ev, .int .u64 c.bt, .int .u64 c.ep, .int .u64 c.em, .int .u64 c.mn, .int .u64 c.ms], .agg #[.int .u64 an, .int .i64 ad], .agg #[.int .u64 bn, .int .i64 bd]] w fun e w' => e = .returned (.bool true) ∧ Below w.heap.size w w' := by
  go_enter Try.func8, Try.ntmps8
  go_wp2_with fail
  refine (lmade_any c _ ok).mono ?_
  rintro e wa (⟨hb, b, rfl, hlb, hg, hb_wa⟩ | ⟨hb, rfl, hb_wa⟩)
  · obtain ⟨⟨f1, f2⟩, _, _, _, _, _, _, _, ⟨m1, m2⟩, _⟩ := Cfg.valid hb
    have hc_wa := (bcell hb_wa).1
    have hf_wa := (bcell hb_wa).2
    have G : ∀ w1, Below wa.heap.size wa w1 → GrpAt w1 b c (2 * c.f + 1) := fun w1 h => hg.below hg.lt h
    replace G := Lib.hid G
    clear hb hg
    have hz_wa_0 : w.heap.size < wa.heap.size := by have h_ := hb_wa.size; (try simp at h_); omega
    have hz_wa_1 : w.heap.size + 1 < wa.heap.size := by have h_ := hb_wa.size; (try simp at h_); omega
    have hz_wa_2 : w.heap.size + 1 + 1 < wa.heap.size := by have h_ := hb_wa.size; (try simp at h_); omega
    have R0 : ∀ w1, Below wa.heap.size wa w1 → Calls Try.prog 26 #[.pointer (some ⟨b, 0, none⟩), .agg #[.int .u64 0, .int .i64 0]] w1 (GotN 0 w1) := fun w1 h => rank_ok b c 0 0 w1 (G.out w1 h) f1 f2 (by omega) m2 (by simp [validB])
    have VA := fun w1 h => valid_at b c an ad w1 (G.out w1 h) f1 f2 h1
    have VB := fun w1 h => valid_at b c bn bd w1 (G.out w1 h) f1 f2 h2
    replace R0 := Lib.hid R0
    replace VA := Lib.hid VA
    replace VB := Lib.hid VB
    go_wp2_with fail
    refine (R0.out _ (by repeat (first | exact Below.refl _ _ | refine Below.alloc_ ?_ _ | refine Below.drew ?_ | refine below_drewN ?_ | refine Below.setCell ?_ (by first | (simp; done) | (simp; omega)) _))).mono ?_
    rintro e wb ⟨rfl, hb_wb⟩
    have hc_wb := (bcell hb_wb).1
    have hf_wb := (bcell hb_wb).2
    have hz_wb_0 : w.heap.size < wb.heap.size := by have h_ := hb_wb.size; (try simp at h_); omega
    have hz_wb_1 : w.heap.size + 1 < wb.heap.size := by have h_ := hb_wb.size; (try simp at h_); omega
    have hz_wb_2 : w.heap.size + 1 + 1 < wb.heap.size := by have h_ := hb_wb.size; (try simp at h_); omega
    by_cases va : validB c an ad = true
    · rw [va] at VA
      by_cases vb : validB c bn bd = true
      · rw [vb] at VB
        have RA := fun w1 h => rank_ok b c an ad w1 (G.out w1 h) f1 f2 h1 m2 va
        have RB := fun w1 h => rank_ok b c bn bd w1 (G.out w1 h) f1 f2 h2 m2 vb
        have d1 : decide (rankB c an ad < rankB c bn bd) = lessB an ad bn bd := by
          have h_ := rank_less f1 f2 va vb
          cases hl : lessB an ad bn bd <;> simp [hl] at h_ ⊢ <;> omega
        have d2 : (rankB c an ad == rankB c bn bd) = (an == bn && ad == bd) := by
          have h_ := rank_less f1 f2 va vb
          have h_' := rank_less f1 f2 vb va
          rw [lessB_true] at h_ h_'
          rw [Bool.eq_iff_iff]
          simp only [beq_iff_eq, Bool.and_eq_true]
          constructor
          · intro h; omega
          · rintro ⟨rfl, rfl⟩; rfl
        have LS := less_any an ad bn bd
        have rr := rank_range f1 f2 m2 va
        have d3 := ranked_rank f1 f2 m1 va
        have d4 := @next_none c an ad f1 f2 va
        have d5 := fun x y => @next_some c an ad x y f1 f2 m1 va
        have RK := fun w1 h => ranked_ok b c (rankB c an ad) w1 (G.out w1 h) f1 f2 rr.1 m1 m2
        have NX := fun w1 h => next_ok b c an ad w1 (G.out w1 h) f1 f2 h1 m2 va
        rw [d3] at RK
        have RY := fun w1 h x y (v : validB c x y = true) (h0 : 0 ≤ x) => rank_ok b c x y w1 (G.out w1 h) f1 f2 h0 m2 v
        rw [← d1] at LS
        by_cases q1 : an = bn
        · subst q1
          by_cases q2 : ad = bd
          · subst q2
            generalize rankB c an ad = m at *
            replace RA := Lib.hid RA
            replace RB := Lib.hid RB
            replace LS := Lib.hid LS
            replace RK := Lib.hid RK
            replace NX := Lib.hid NX
            replace RY := Lib.hid RY
            have D4 := Lib.hid d4
            have D5 := Lib.hid d5
            clear d1 d3 d4 d5 va vb
            go_wp2_with fail
            refine (VA.out _ (by repeat (first | exact Below.refl _ _ | exact hb_wb | refine Below.on ?_ hb_wb | refine Below.alloc_ ?_ _ | refine Below.drew ?_ | refine below_drewN ?_ | refine Below.setCell ?_ (by first | (simp; done) | (simp; omega)) _))).mono ?_
            rintro e wc ⟨rfl, hb_wc⟩
            have hc_wc := (bcell hb_wc).1
            have hf_wc := (bcell hb_wc).2
            have hz_wc_0 : w.heap.size < wc.heap.size := by have h_ := hb_wc.size; (try simp at h_); omega
            have hz_wc_1 : w.heap.size + 1 < wc.heap.size := by have h_ := hb_wc.size; (try simp at h_); omega
            have hz_wc_2 : w.heap.size + 1 + 1 < wc.heap.size := by have h_ := hb_wc.size; (try simp at h_); omega
            go_wp2_with fail
            refine (VB.out _ (by repeat (first | exact Below.refl _ _ | exact hb_wb | refine Below.on ?_ hb_wb | exact hb_wc | refine Below.on ?_ hb_wc | refine Below.alloc_ ?_ _ | refine Below.drew ?_ | refine below_drewN ?_ | refine Below.setCell ?_ (by first | (simp; done) | (simp; omega)) _))).mono ?_
            rintro e wd ⟨rfl, hb_wd⟩
            have hc_wd := (bcell hb_wd).1
            have hf_wd := (bcell hb_wd).2
            have hz_wd_0 : w.heap.size < wd.heap.size := by have h_ := hb_wd.size; (try simp at h_); omega
            have hz_wd_1 : w.heap.size + 1 < wd.heap.size := by have h_ := hb_wd.size; (try simp at h_); omega
            have hz_wd_2 : w.heap.size + 1 + 1 < wd.heap.size := by have h_ := hb_wd.size; (try simp at h_); omega
            go_wp2_with fail
            refine (RA.out _ (by repeat (first | exact Below.refl _ _ | exact hb_wb | refine Below.on ?_ hb_wb | exact hb_wc | refine Below.on ?_ hb_wc | exact hb_wd | refine Below.on ?_ hb_wd | refine Below.alloc_ ?_ _ | refine Below.drew ?_ | refine below_drewN ?_ | refine Below.setCell ?_ (by first | (simp; done) | (simp; omega)) _))).mono ?_
            rintro e we ⟨rfl, hb_we⟩
            have hc_we := (bcell hb_we).1
            have hf_we := (bcell hb_we).2
            have hz_we_0 : w.heap.size < we.heap.size := by have h_ := hb_we.size; (try simp at h_); omega
            have hz_we_1 : w.heap.size + 1 < we.heap.size := by have h_ := hb_we.size; (try simp at h_); omega
            have hz_we_2 : w.heap.size + 1 + 1 < we.heap.size := by have h_ := hb_we.size; (try simp at h_); omega
            go_wp2_with fail
            refine (RB.out _ (by repeat (first | exact Below.refl _ _ | exact hb_wb | refine Below.on ?_ hb_wb | exact hb_wc | refine Below.on ?_ hb_wc | exact hb_wd | refine Below.on ?_ hb_wd | exact hb_we | refine Below.on ?_ hb_we | refine Below.alloc_ ?_ _ | refine Below.drew ?_ | refine below_drewN ?_ | refine Below.setCell ?_ (by first | (simp; done) | (simp; omega)) _))).mono ?_
            rintro e wf ⟨rfl, hb_wf⟩
            have hc_wf := (bcell hb_wf).1
            have hf_wf := (bcell hb_wf).2
            have hz_wf_0 : w.heap.size < wf.heap.size := by have h_ := hb_wf.size; (try simp at h_); omega
            have hz_wf_1 : w.heap.size + 1 < wf.heap.size := by have h_ := hb_wf.size; (try simp at h_); omega
            have hz_wf_2 : w.heap.size + 1 + 1 < wf.heap.size := by have h_ := hb_wf.size; (try simp at h_); omega
            go_wp2_with fail
            refine (LS.out _).mono ?_
            rintro e wg ⟨rfl, hb_wg⟩
            have hc_wg := (bcell hb_wg).1
            have hf_wg := (bcell hb_wg).2
            have hz_wg_0 : w.heap.size < wg.heap.size := by have h_ := hb_wg.size; (try simp at h_); omega
            have hz_wg_1 : w.heap.size + 1 < wg.heap.size := by have h_ := hb_wg.size; (try simp at h_); omega
            have hz_wg_2 : w.heap.size + 1 + 1 < wg.heap.size := by have h_ := hb_wg.size; (try simp at h_); omega
            go_wp2_with fail
            refine (RK.out _ (by repeat (first | exact Below.refl _ _ | exact hb_wb | refine Below.on ?_ hb_wb | exact hb_wc | refine Below.on ?_ hb_wc | exact hb_wd | refine Below.on ?_ hb_wd | exact hb_we | refine Below.on ?_ hb_we | exact hb_wf | refine Below.on ?_ hb_wf | exact hb_wg | refine Below.on ?_ hb_wg | refine Below.alloc_ ?_ _ | refine Below.drew ?_ | refine below_drewN ?_ | refine Below.setCell ?_ (by first | (simp; done) | (simp; omega)) _))).mono ?_
            rintro e wh ⟨rfl, hb_wh⟩
            have hc_wh := (bcell hb_wh).1
            have hf_wh := (bcell hb_wh).2
            have hz_wh_0 : w.heap.size < wh.heap.size := by have h_ := hb_wh.size; (try simp at h_); omega
            have hz_wh_1 : w.heap.size + 1 < wh.heap.size := by have h_ := hb_wh.size; (try simp at h_); omega
            have hz_wh_2 : w.heap.size + 1 + 1 < wh.heap.size := by have h_ := hb_wh.size; (try simp at h_); omega
            have NX := NX.out
            have D4 := D4.out
            have D5 := D5.out
            rcases hnx : nextB c an ad with _ | ⟨x, y⟩
            · rw [hnx] at NX
              have e1 := D4 hnx
              have ND : ∀ w1, Below wa.heap.size wa w1 → Calls Try.prog 28 #[.pointer (some ⟨b, 0, none⟩)] w1 fun e w' => e = .returned (.int .i64 (2 * c.f + 1)) ∧ Below w1.heap.size w1 w' := fun w1 h =>
                sameB (nodes_at b (2 * c.f + 1) w1 (G.out w1 h).nodes (by omega))
              replace ND := Lib.hid ND
              replace NX := Lib.hid NX
              clear D4 D5
              go_wp2_with fail
              refine (NX.out _ (by repeat (first | exact Below.refl _ _ | exact hb_wb | refine Below.on ?_ hb_wb | exact hb_wc | refine Below.on ?_ hb_wc | exact hb_wd | refine Below.on ?_ hb_wd | exact hb_we | refine Below.on ?_ hb_we | exact hb_wf | refine Below.on ?_ hb_wf | exact hb_wg | refine Below.on ?_ hb_wg | exact hb_wh | refine Below.on ?_ hb_wh | refine Below.alloc_ ?_ _ | refine Below.drew ?_ | refine below_drewN ?_ | refine Below.setCell ?_ (by first | (simp; done) | (simp; omega)) _))).mono ?_
              rintro e wi ⟨q, rfl, he, hb_wi⟩
              have hc_wi := (bcell hb_wi).1
              have hf_wi := (bcell hb_wi).2
              have hz_wi_0 : w.heap.size < wi.heap.size := by have h_ := hb_wi.size; (try simp at h_); omega
              have hz_wi_1 : w.heap.size + 1 < wi.heap.size := by have h_ := hb_wi.size; (try simp at h_); omega
              have hz_wi_2 : w.heap.size + 1 + 1 < wi.heap.size := by have h_ := hb_wi.size; (try simp at h_); omega
              clear he
              have e2 : IntKind.u64.wrap (2 * c.f + 1) = 2 * c.f + 1 := by simp only [IntKind.wrap, IntKind.signed, IntKind.bits]; simp; omega
              have e3 : IntKind.u64.wrap (c.mn * (2 * c.f + 1)) = c.mn * (2 * c.f + 1) := by rw [← e1]; simp only [IntKind.wrap, IntKind.signed, IntKind.bits]; simp; omega
              have e4 : (m == c.mn * (2 * c.f + 1)) = true := beq_iff_eq.mpr e1
              clear e1
              go_wp2
              refine wp_region_below (by kernel_rfl) (by kernel_rfl) ?_
              repeat first | go_big_quiet_skip | (go_big_quiet_want; go_big_quiet_op; go_big_quiet_on) | (go_big_quiet_want; rename_i K hK; apply quiet_mk; (focus (intro w1 hw1; have hc1 := (bcell hw1).1; have hf1 := (bcell hw1).2; go_simp; first | done | rfl | (first | (go_at_call 28; (refine (ND.out _ (Below.on (by repeat (first | exact Below.refl _ _ | exact hb_wb | refine Below.on ?_ hb_wb | exact hb_wc | refine Below.on ?_ hb_wc | exact hb_wd | refine Below.on ?_ hb_wd | exact hb_we | refine Below.on ?_ hb_we | exact hb_wf | refine Below.on ?_ hb_wf | exact hb_wg | refine Below.on ?_ hb_wg | exact hb_wh | refine Below.on ?_ hb_wh | exact hb_wi | refine Below.on ?_ hb_wi | refine Below.alloc_ ?_ _ | refine Below.drew ?_ | refine below_drewN ?_ | refine Below.setCell ?_ (by first | (simp; done) | (simp; omega)) _)) hw1)).mono ?_); rintro e w2 ⟨rfl, hb2⟩; exact ⟨rfl, (hw1.trans (hb2.mono hw1.size)).mono (by simp)⟩)))); refine hK _ ?_; clear hK K; try simp only [Act.put, List.setIfInBounds_toArray, List.set_cons_zero, List.set_cons_succ])
              refine wpQuiet_nil ?_
              intro wj hb_wj
              have hc_wj := (bcell hb_wj).1
              have hf_wj := (bcell hb_wj).2
              go_wp2
              go_ret
              exact ⟨by simp, (by repeat (first | exact Below.refl _ _ | exact hb_wa | refine Below.on ?_ hb_wa | exact hb_wb | refine Below.on ?_ hb_wb | exact hb_wc | refine Below.on ?_ hb_wc | exact hb_wd | refine Below.on ?_ hb_wd | exact hb_we | refine Below.on ?_ hb_we | exact hb_wf | refine Below.on ?_ hb_wf | exact hb_wg | refine Below.on ?_ hb_wg | exact hb_wh | refine Below.on ?_ hb_wh | exact hb_wi | refine Below.on ?_ hb_wi | exact hb_wj | refine Below.on ?_ hb_wj | refine Below.alloc_ ?_ _ | refine Below.drew ?_ | refine below_drewN ?_ | refine Below.setCell ?_ (by first | (simp; done) | (simp; omega)) _))⟩
            · rw [hnx] at NX
              obtain ⟨v1, v2, v3⟩ := D5 x y hnx
              have RY := fun w1 h => RY.out w1 h x y v1 v3
              rw [v2] at RY
              replace NX := Lib.hid NX
              replace RY := Lib.hid RY
              clear D4 D5 v1 v2
              go_wp2_with fail
              refine (NX.out _ (by repeat (first | exact Below.refl _ _ | exact hb_wb | refine Below.on ?_ hb_wb | exact hb_wc | refine Below.on ?_ hb_wc | exact hb_wd | refine Below.on ?_ hb_wd | exact hb_we | refine Below.on ?_ hb_we | exact hb_wf | refine Below.on ?_ hb_wf | exact hb_wg | refine Below.on ?_ hb_wg | exact hb_wh | refine Below.on ?_ hb_wh | refine Below.alloc_ ?_ _ | refine Below.drew ?_ | refine below_drewN ?_ | refine Below.setCell ?_ (by first | (simp; done) | (simp; omega)) _))).mono ?_
              rintro e wi ⟨rfl, hb_wi⟩
              have hc_wi := (bcell hb_wi).1
              have hf_wi := (bcell hb_wi).2
              have hz_wi_0 : w.heap.size < wi.heap.size := by have h_ := hb_wi.size; (try simp at h_); omega
              have hz_wi_1 : w.heap.size + 1 < wi.heap.size := by have h_ := hb_wi.size; (try simp at h_); omega
              have hz_wi_2 : w.heap.size + 1 + 1 < wi.heap.size := by have h_ := hb_wi.size; (try simp at h_); omega
              go_wp2_with fail
              refine (RY.out _ (by repeat (first | exact Below.refl _ _ | exact hb_wb | refine Below.on ?_ hb_wb | exact hb_wc | refine Below.on ?_ hb_wc | exact hb_wd | refine Below.on ?_ hb_wd | exact hb_we | refine Below.on ?_ hb_we | exact hb_wf | refine Below.on ?_ hb_wf | exact hb_wg | refine Below.on ?_ hb_wg | exact hb_wh | refine Below.on ?_ hb_wh | exact hb_wi | refine Below.on ?_ hb_wi | refine Below.alloc_ ?_ _ | refine Below.drew ?_ | refine below_drewN ?_ | refine Below.setCell ?_ (by first | (simp; done) | (simp; omega)) _))).mono ?_
              rintro e wj ⟨rfl, hb_wj⟩
              have hc_wj := (bcell hb_wj).1
              have hf_wj := (bcell hb_wj).2
              go_wp2
              go_ret
              exact ⟨by simp, (by repeat (first | exact Below.refl _ _ | exact hb_wa | refine Below.on ?_ hb_wa | exact hb_wb | refine Below.on ?_ hb_wb | exact hb_wc | refine Below.on ?_ hb_wc | exact hb_wd | refine Below.on ?_ hb_wd | exact hb_we | refine Below.on ?_ hb_we | exact hb_wf | refine Below.on ?_ hb_wf | exact hb_wg | refine Below.on ?_ hb_wg | exact hb_wh | refine Below.on ?_ hb_wh | exact hb_wi | refine Below.on ?_ hb_wi | exact hb_wj | refine Below.on ?_ hb_wj | refine Below.alloc_ ?_ _ | refine Below.drew ?_ | refine below_drewN ?_ | refine Below.setCell ?_ (by first | (simp; done) | (simp; omega)) _))⟩
          · replace d2 : (rankB c an ad == rankB c an bd) = false := by rw [d2]; simp [q2]
            generalize rankB c an ad = m at *
            generalize rankB c an bd = k at *
            replace RA := Lib.hid RA
            replace RB := Lib.hid RB
            replace LS := Lib.hid LS
            replace RK := Lib.hid RK
            replace NX := Lib.hid NX
            replace RY := Lib.hid RY
            have D4 := Lib.hid d4
            have D5 := Lib.hid d5
            clear d1 d3 d4 d5 va vb
            go_wp2_with fail
            refine (VA.out _ (by repeat (first | exact Below.refl _ _ | exact hb_wb | refine Below.on ?_ hb_wb | refine Below.alloc_ ?_ _ | refine Below.drew ?_ | refine below_drewN ?_ | refine Below.setCell ?_ (by first | (simp; done) | (simp; omega)) _))).mono ?_
            rintro e wc ⟨rfl, hb_wc⟩
            have hc_wc := (bcell hb_wc).1
            have hf_wc := (bcell hb_wc).2
            have hz_wc_0 : w.heap.size < wc.heap.size := by have h_ := hb_wc.size; (try simp at h_); omega
            have hz_wc_1 : w.heap.size + 1 < wc.heap.size := by have h_ := hb_wc.size; (try simp at h_); omega
            have hz_wc_2 : w.heap.size + 1 + 1 < wc.heap.size := by have h_ := hb_wc.size; (try simp at h_); omega
            go_wp2_with fail
            refine (VB.out _ (by repeat (first | exact Below.refl _ _ | exact hb_wb | refine Below.on ?_ hb_wb | exact hb_wc | refine Below.on ?_ hb_wc | refine Below.alloc_ ?_ _ | refine Below.drew ?_ | refine below_drewN ?_ | refine Below.setCell ?_ (by first | (simp; done) | (simp; omega)) _))).mono ?_
            rintro e wd ⟨rfl, hb_wd⟩
            have hc_wd := (bcell hb_wd).1
            have hf_wd := (bcell hb_wd).2
            have hz_wd_0 : w.heap.size < wd.heap.size := by have h_ := hb_wd.size; (try simp at h_); omega
            have hz_wd_1 : w.heap.size + 1 < wd.heap.size := by have h_ := hb_wd.size; (try simp at h_); omega
            have hz_wd_2 : w.heap.size + 1 + 1 < wd.heap.size := by have h_ := hb_wd.size; (try simp at h_); omega
            go_wp2_with fail
            refine (RA.out _ (by repeat (first | exact Below.refl _ _ | exact hb_wb | refine Below.on ?_ hb_wb | exact hb_wc | refine Below.on ?_ hb_wc | exact hb_wd | refine Below.on ?_ hb_wd | refine Below.alloc_ ?_ _ | refine Below.drew ?_ | refine below_drewN ?_ | refine Below.setCell ?_ (by first | (simp; done) | (simp; omega)) _))).mono ?_
            rintro e we ⟨rfl, hb_we⟩
            have hc_we := (bcell hb_we).1
            have hf_we := (bcell hb_we).2
            have hz_we_0 : w.heap.size < we.heap.size := by have h_ := hb_we.size; (try simp at h_); omega
            have hz_we_1 : w.heap.size + 1 < we.heap.size := by have h_ := hb_we.size; (try simp at h_); omega
            have hz_we_2 : w.heap.size + 1 + 1 < we.heap.size := by have h_ := hb_we.size; (try simp at h_); omega
            go_wp2_with fail
            refine (RB.out _ (by repeat (first | exact Below.refl _ _ | exact hb_wb | refine Below.on ?_ hb_wb | exact hb_wc | refine Below.on ?_ hb_wc | exact hb_wd | refine Below.on ?_ hb_wd | exact hb_we | refine Below.on ?_ hb_we | refine Below.alloc_ ?_ _ | refine Below.drew ?_ | refine below_drewN ?_ | refine Below.setCell ?_ (by first | (simp; done) | (simp; omega)) _))).mono ?_
            rintro e wf ⟨rfl, hb_wf⟩
            have hc_wf := (bcell hb_wf).1
            have hf_wf := (bcell hb_wf).2
            have hz_wf_0 : w.heap.size < wf.heap.size := by have h_ := hb_wf.size; (try simp at h_); omega
            have hz_wf_1 : w.heap.size + 1 < wf.heap.size := by have h_ := hb_wf.size; (try simp at h_); omega
            have hz_wf_2 : w.heap.size + 1 + 1 < wf.heap.size := by have h_ := hb_wf.size; (try simp at h_); omega
            go_wp2_with fail
            refine (LS.out _).mono ?_
            rintro e wg ⟨rfl, hb_wg⟩
            have hc_wg := (bcell hb_wg).1
            have hf_wg := (bcell hb_wg).2
            have hz_wg_0 : w.heap.size < wg.heap.size := by have h_ := hb_wg.size; (try simp at h_); omega
            have hz_wg_1 : w.heap.size + 1 < wg.heap.size := by have h_ := hb_wg.size; (try simp at h_); omega
            have hz_wg_2 : w.heap.size + 1 + 1 < wg.heap.size := by have h_ := hb_wg.size; (try simp at h_); omega
            go_wp2_with fail
            refine (RK.out _ (by repeat (first | exact Below.refl _ _ | exact hb_wb | refine Below.on ?_ hb_wb | exact hb_wc | refine Below.on ?_ hb_wc | exact hb_wd | refine Below.on ?_ hb_wd | exact hb_we | refine Below.on ?_ hb_we | exact hb_wf | refine Below.on ?_ hb_wf | exact hb_wg | refine Below.on ?_ hb_wg | refine Below.alloc_ ?_ _ | refine Below.drew ?_ | refine below_drewN ?_ | refine Below.setCell ?_ (by first | (simp; done) | (simp; omega)) _))).mono ?_
            rintro e wh ⟨rfl, hb_wh⟩
            have hc_wh := (bcell hb_wh).1
            have hf_wh := (bcell hb_wh).2
            have hz_wh_0 : w.heap.size < wh.heap.size := by have h_ := hb_wh.size; (try simp at h_); omega
            have hz_wh_1 : w.heap.size + 1 < wh.heap.size := by have h_ := hb_wh.size; (try simp at h_); omega
            have hz_wh_2 : w.heap.size + 1 + 1 < wh.heap.size := by have h_ := hb_wh.size; (try simp at h_); omega
            have NX := NX.out
            have D4 := D4.out
            have D5 := D5.out
            rcases hnx : nextB c an ad with _ | ⟨x, y⟩
            · rw [hnx] at NX
              have e1 := D4 hnx
              have ND : ∀ w1, Below wa.heap.size wa w1 → Calls Try.prog 28 #[.pointer (some ⟨b, 0, none⟩)] w1 fun e w' => e = .returned (.int .i64 (2 * c.f + 1)) ∧ Below w1.heap.size w1 w' := fun w1 h =>
                sameB (nodes_at b (2 * c.f + 1) w1 (G.out w1 h).nodes (by omega))
              replace ND := Lib.hid ND
              replace NX := Lib.hid NX
              clear D4 D5
              go_wp2_with fail
              refine (NX.out _ (by repeat (first | exact Below.refl _ _ | exact hb_wb | refine Below.on ?_ hb_wb | exact hb_wc | refine Below.on ?_ hb_wc | exact hb_wd | refine Below.on ?_ hb_wd | exact hb_we | refine Below.on ?_ hb_we | exact hb_wf | refine Below.on ?_ hb_wf | exact hb_wg | refine Below.on ?_ hb_wg | exact hb_wh | refine Below.on ?_ hb_wh | refine Below.alloc_ ?_ _ | refine Below.drew ?_ | refine below_drewN ?_ | refine Below.setCell ?_ (by first | (simp; done) | (simp; omega)) _))).mono ?_
              rintro e wi ⟨q, rfl, he, hb_wi⟩
              have hc_wi := (bcell hb_wi).1
              have hf_wi := (bcell hb_wi).2
              have hz_wi_0 : w.heap.size < wi.heap.size := by have h_ := hb_wi.size; (try simp at h_); omega
              have hz_wi_1 : w.heap.size + 1 < wi.heap.size := by have h_ := hb_wi.size; (try simp at h_); omega
              have hz_wi_2 : w.heap.size + 1 + 1 < wi.heap.size := by have h_ := hb_wi.size; (try simp at h_); omega
              clear he
              have e2 : IntKind.u64.wrap (2 * c.f + 1) = 2 * c.f + 1 := by simp only [IntKind.wrap, IntKind.signed, IntKind.bits]; simp; omega
              have e3 : IntKind.u64.wrap (c.mn * (2 * c.f + 1)) = c.mn * (2 * c.f + 1) := by rw [← e1]; simp only [IntKind.wrap, IntKind.signed, IntKind.bits]; simp; omega
              have e4 : (m == c.mn * (2 * c.f + 1)) = true := beq_iff_eq.mpr e1
              clear e1
              go_wp2
              refine wp_region_below (by kernel_rfl) (by kernel_rfl) ?_
              repeat first | go_big_quiet_skip | (go_big_quiet_want; go_big_quiet_op; go_big_quiet_on) | (go_big_quiet_want; rename_i K hK; apply quiet_mk; (focus (intro w1 hw1; have hc1 := (bcell hw1).1; have hf1 := (bcell hw1).2; go_simp; first | done | rfl | (first | (go_at_call 28; (refine (ND.out _ (Below.on (by repeat (first | exact Below.refl _ _ | exact hb_wb | refine Below.on ?_ hb_wb | exact hb_wc | refine Below.on ?_ hb_wc | exact hb_wd | refine Below.on ?_ hb_wd | exact hb_we | refine Below.on ?_ hb_we | exact hb_wf | refine Below.on ?_ hb_wf | exact hb_wg | refine Below.on ?_ hb_wg | exact hb_wh | refine Below.on ?_ hb_wh | exact hb_wi | refine Below.on ?_ hb_wi | refine Below.alloc_ ?_ _ | refine Below.drew ?_ | refine below_drewN ?_ | refine Below.setCell ?_ (by first | (simp; done) | (simp; omega)) _)) hw1)).mono ?_); rintro e w2 ⟨rfl, hb2⟩; exact ⟨rfl, (hw1.trans (hb2.mono hw1.size)).mono (by simp)⟩)))); refine hK _ ?_; clear hK K; try simp only [Act.put, List.setIfInBounds_toArray, List.set_cons_zero, List.set_cons_succ])
              refine wpQuiet_nil ?_
              intro wj hb_wj
              have hc_wj := (bcell hb_wj).1
              have hf_wj := (bcell hb_wj).2
              go_wp2
              go_ret
              exact ⟨by simp, (by repeat (first | exact Below.refl _ _ | exact hb_wa | refine Below.on ?_ hb_wa | exact hb_wb | refine Below.on ?_ hb_wb | exact hb_wc | refine Below.on ?_ hb_wc | exact hb_wd | refine Below.on ?_ hb_wd | exact hb_we | refine Below.on ?_ hb_we | exact hb_wf | refine Below.on ?_ hb_wf | exact hb_wg | refine Below.on ?_ hb_wg | exact hb_wh | refine Below.on ?_ hb_wh | exact hb_wi | refine Below.on ?_ hb_wi | exact hb_wj | refine Below.on ?_ hb_wj | refine Below.alloc_ ?_ _ | refine Below.drew ?_ | refine below_drewN ?_ | refine Below.setCell ?_ (by first | (simp; done) | (simp; omega)) _))⟩
            · rw [hnx] at NX
              obtain ⟨v1, v2, v3⟩ := D5 x y hnx
              have RY := fun w1 h => RY.out w1 h x y v1 v3
              rw [v2] at RY
              replace NX := Lib.hid NX
              replace RY := Lib.hid RY
              clear D4 D5 v1 v2
              go_wp2_with fail
              refine (NX.out _ (by repeat (first | exact Below.refl _ _ | exact hb_wb | refine Below.on ?_ hb_wb | exact hb_wc | refine Below.on ?_ hb_wc | exact hb_wd | refine Below.on ?_ hb_wd | exact hb_we | refine Below.on ?_ hb_we | exact hb_wf | refine Below.on ?_ hb_wf | exact hb_wg | refine Below.on ?_ hb_wg | exact hb_wh | refine Below.on ?_ hb_wh | refine Below.alloc_ ?_ _ | refine Below.drew ?_ | refine below_drewN ?_ | refine Below.setCell ?_ (by first | (simp; done) | (simp; omega)) _))).mono ?_
              rintro e wi ⟨rfl, hb_wi⟩
              have hc_wi := (bcell hb_wi).1
              have hf_wi := (bcell hb_wi).2
              have hz_wi_0 : w.heap.size < wi.heap.size := by have h_ := hb_wi.size; (try simp at h_); omega
              have hz_wi_1 : w.heap.size + 1 < wi.heap.size := by have h_ := hb_wi.size; (try simp at h_); omega
              have hz_wi_2 : w.heap.size + 1 + 1 < wi.heap.size := by have h_ := hb_wi.size; (try simp at h_); omega
              go_wp2_with fail
              refine (RY.out _ (by repeat (first | exact Below.refl _ _ | exact hb_wb | refine Below.on ?_ hb_wb | exact hb_wc | refine Below.on ?_ hb_wc | exact hb_wd | refine Below.on ?_ hb_wd | exact hb_we | refine Below.on ?_ hb_we | exact hb_wf | refine Below.on ?_ hb_wf | exact hb_wg | refine Below.on ?_ hb_wg | exact hb_wh | refine Below.on ?_ hb_wh | exact hb_wi | refine Below.on ?_ hb_wi | refine Below.alloc_ ?_ _ | refine Below.drew ?_ | refine below_drewN ?_ | refine Below.setCell ?_ (by first | (simp; done) | (simp; omega)) _))).mono ?_
              rintro e wj ⟨rfl, hb_wj⟩
              have hc_wj := (bcell hb_wj).1
              have hf_wj := (bcell hb_wj).2
              go_wp2
              go_ret
              exact ⟨by simp, (by repeat (first | exact Below.refl _ _ | exact hb_wa | refine Below.on ?_ hb_wa | exact hb_wb | refine Below.on ?_ hb_wb | exact hb_wc | refine Below.on ?_ hb_wc | exact hb_wd | refine Below.on ?_ hb_wd | exact hb_we | refine Below.on ?_ hb_we | exact hb_wf | refine Below.on ?_ hb_wf | exact hb_wg | refine Below.on ?_ hb_wg | exact hb_wh | refine Below.on ?_ hb_wh | exact hb_wi | refine Below.on ?_ hb_wi | exact hb_wj | refine Below.on ?_ hb_wj | refine Below.alloc_ ?_ _ | refine Below.drew ?_ | refine below_drewN ?_ | refine Below.setCell ?_ (by first | (simp; done) | (simp; omega)) _))⟩
        · replace d2 : (rankB c an ad == rankB c bn bd) = false := by rw [d2]; simp [q1]
          generalize rankB c an ad = m at *
          generalize rankB c bn bd = k at *
          replace RA := Lib.hid RA
          replace RB := Lib.hid RB
          replace LS := Lib.hid LS
          replace RK := Lib.hid RK
          replace NX := Lib.hid NX
          replace RY := Lib.hid RY
          have D4 := Lib.hid d4
          have D5 := Lib.hid d5
          clear d1 d3 d4 d5 va vb
          go_wp2_with fail
          refine (VA.out _ (by repeat (first | exact Below.refl _ _ | exact hb_wb | refine Below.on ?_ hb_wb | refine Below.alloc_ ?_ _ | refine Below.drew ?_ | refine below_drewN ?_ | refine Below.setCell ?_ (by first | (simp; done) | (simp; omega)) _))).mono ?_
          rintro e wc ⟨rfl, hb_wc⟩
          have hc_wc := (bcell hb_wc).1
          have hf_wc := (bcell hb_wc).2
          have hz_wc_0 : w.heap.size < wc.heap.size := by have h_ := hb_wc.size; (try simp at h_); omega
          have hz_wc_1 : w.heap.size + 1 < wc.heap.size := by have h_ := hb_wc.size; (try simp at h_); omega
          have hz_wc_2 : w.heap.size + 1 + 1 < wc.heap.size := by have h_ := hb_wc.size; (try simp at h_); omega
          go_wp2_with fail
          refine (VB.out _ (by repeat (first | exact Below.refl _ _ | exact hb_wb | refine Below.on ?_ hb_wb | exact hb_wc | refine Below.on ?_ hb_wc | refine Below.alloc_ ?_ _ | refine Below.drew ?_ | refine below_drewN ?_ | refine Below.setCell ?_ (by first | (simp; done) | (simp; omega)) _))).mono ?_
          rintro e wd ⟨rfl, hb_wd⟩
          have hc_wd := (bcell hb_wd).1
          have hf_wd := (bcell hb_wd).2
          have hz_wd_0 : w.heap.size < wd.heap.size := by have h_ := hb_wd.size; (try simp at h_); omega
          have hz_wd_1 : w.heap.size + 1 < wd.heap.size := by have h_ := hb_wd.size; (try simp at h_); omega
          have hz_wd_2 : w.heap.size + 1 + 1 < wd.heap.size := by have h_ := hb_wd.size; (try simp at h_); omega
          go_wp2_with fail
          refine (RA.out _ (by repeat (first | exact Below.refl _ _ | exact hb_wb | refine Below.on ?_ hb_wb | exact hb_wc | refine Below.on ?_ hb_wc | exact hb_wd | refine Below.on ?_ hb_wd | refine Below.alloc_ ?_ _ | refine Below.drew ?_ | refine below_drewN ?_ | refine Below.setCell ?_ (by first | (simp; done) | (simp; omega)) _))).mono ?_
          rintro e we ⟨rfl, hb_we⟩
          have hc_we := (bcell hb_we).1
          have hf_we := (bcell hb_we).2
          have hz_we_0 : w.heap.size < we.heap.size := by have h_ := hb_we.size; (try simp at h_); omega
          have hz_we_1 : w.heap.size + 1 < we.heap.size := by have h_ := hb_we.size; (try simp at h_); omega
          have hz_we_2 : w.heap.size + 1 + 1 < we.heap.size := by have h_ := hb_we.size; (try simp at h_); omega
          go_wp2_with fail
          refine (RB.out _ (by repeat (first | exact Below.refl _ _ | exact hb_wb | refine Below.on ?_ hb_wb | exact hb_wc | refine Below.on ?_ hb_wc | exact hb_wd | refine Below.on ?_ hb_wd | exact hb_we | refine Below.on ?_ hb_we | refine Below.alloc_ ?_ _ | refine Below.drew ?_ | refine below_drewN ?_ | refine Below.setCell ?_ (by first | (simp; done) | (simp; omega)) _))).mono ?_
          rintro e wf ⟨rfl, hb_wf⟩
          have hc_wf := (bcell hb_wf).1
          have hf_wf := (bcell hb_wf).2
          have hz_wf_0 : w.heap.size < wf.heap.size := by have h_ := hb_wf.size; (try simp at h_); omega
          have hz_wf_1 : w.heap.size + 1 < wf.heap.size := by have h_ := hb_wf.size; (try simp at h_); omega
          have hz_wf_2 : w.heap.size + 1 + 1 < wf.heap.size := by have h_ := hb_wf.size; (try simp at h_); omega
          go_wp2_with fail
          refine (LS.out _).mono ?_
          rintro e wg ⟨rfl, hb_wg⟩
          have hc_wg := (bcell hb_wg).1
          have hf_wg := (bcell hb_wg).2
          have hz_wg_0 : w.heap.size < wg.heap.size := by have h_ := hb_wg.size; (try simp at h_); omega
          have hz_wg_1 : w.heap.size + 1 < wg.heap.size := by have h_ := hb_wg.size; (try simp at h_); omega
          have hz_wg_2 : w.heap.size + 1 + 1 < wg.heap.size := by have h_ := hb_wg.size; (try simp at h_); omega
          go_wp2_with fail
          refine (RK.out _ (by repeat (first | exact Below.refl _ _ | exact hb_wb | refine Below.on ?_ hb_wb | exact hb_wc | refine Below.on ?_ hb_wc | exact hb_wd | refine Below.on ?_ hb_wd | exact hb_we | refine Below.on ?_ hb_we | exact hb_wf | refine Below.on ?_ hb_wf | exact hb_wg | refine Below.on ?_ hb_wg | refine Below.alloc_ ?_ _ | refine Below.drew ?_ | refine below_drewN ?_ | refine Below.setCell ?_ (by first | (simp; done) | (simp; omega)) _))).mono ?_
          rintro e wh ⟨rfl, hb_wh⟩
          have hc_wh := (bcell hb_wh).1
          have hf_wh := (bcell hb_wh).2
          have hz_wh_0 : w.heap.size < wh.heap.size := by have h_ := hb_wh.size; (try simp at h_); omega
          have hz_wh_1 : w.heap.size + 1 < wh.heap.size := by have h_ := hb_wh.size; (try simp at h_); omega
          have hz_wh_2 : w.heap.size + 1 + 1 < wh.heap.size := by have h_ := hb_wh.size; (try simp at h_); omega
          have NX := NX.out
          have D4 := D4.out
          have D5 := D5.out
          rcases hnx : nextB c an ad with _ | ⟨x, y⟩
          · rw [hnx] at NX
            have e1 := D4 hnx
            have ND : ∀ w1, Below wa.heap.size wa w1 → Calls Try.prog 28 #[.pointer (some ⟨b, 0, none⟩)] w1 fun e w' => e = .returned (.int .i64 (2 * c.f + 1)) ∧ Below w1.heap.size w1 w' := fun w1 h =>
              sameB (nodes_at b (2 * c.f + 1) w1 (G.out w1 h).nodes (by omega))
            replace ND := Lib.hid ND
            replace NX := Lib.hid NX
            clear D4 D5
            go_wp2_with fail
            refine (NX.out _ (by repeat (first | exact Below.refl _ _ | exact hb_wb | refine Below.on ?_ hb_wb | exact hb_wc | refine Below.on ?_ hb_wc | exact hb_wd | refine Below.on ?_ hb_wd | exact hb_we | refine Below.on ?_ hb_we | exact hb_wf | refine Below.on ?_ hb_wf | exact hb_wg | refine Below.on ?_ hb_wg | exact hb_wh | refine Below.on ?_ hb_wh | refine Below.alloc_ ?_ _ | refine Below.drew ?_ | refine below_drewN ?_ | refine Below.setCell ?_ (by first | (simp; done) | (simp; omega)) _))).mono ?_
            rintro e wi ⟨q, rfl, he, hb_wi⟩
            have hc_wi := (bcell hb_wi).1
            have hf_wi := (bcell hb_wi).2
            have hz_wi_0 : w.heap.size < wi.heap.size := by have h_ := hb_wi.size; (try simp at h_); omega
            have hz_wi_1 : w.heap.size + 1 < wi.heap.size := by have h_ := hb_wi.size; (try simp at h_); omega
            have hz_wi_2 : w.heap.size + 1 + 1 < wi.heap.size := by have h_ := hb_wi.size; (try simp at h_); omega
            clear he
            have e2 : IntKind.u64.wrap (2 * c.f + 1) = 2 * c.f + 1 := by simp only [IntKind.wrap, IntKind.signed, IntKind.bits]; simp; omega
            have e3 : IntKind.u64.wrap (c.mn * (2 * c.f + 1)) = c.mn * (2 * c.f + 1) := by rw [← e1]; simp only [IntKind.wrap, IntKind.signed, IntKind.bits]; simp; omega
            have e4 : (m == c.mn * (2 * c.f + 1)) = true := beq_iff_eq.mpr e1
            clear e1
            go_wp2
            refine wp_region_below (by kernel_rfl) (by kernel_rfl) ?_
            repeat first | go_big_quiet_skip | (go_big_quiet_want; go_big_quiet_op; go_big_quiet_on) | (go_big_quiet_want; rename_i K hK; apply quiet_mk; (focus (intro w1 hw1; have hc1 := (bcell hw1).1; have hf1 := (bcell hw1).2; go_simp; first | done | rfl | (first | (go_at_call 28; (refine (ND.out _ (Below.on (by repeat (first | exact Below.refl _ _ | exact hb_wb | refine Below.on ?_ hb_wb | exact hb_wc | refine Below.on ?_ hb_wc | exact hb_wd | refine Below.on ?_ hb_wd | exact hb_we | refine Below.on ?_ hb_we | exact hb_wf | refine Below.on ?_ hb_wf | exact hb_wg | refine Below.on ?_ hb_wg | exact hb_wh | refine Below.on ?_ hb_wh | exact hb_wi | refine Below.on ?_ hb_wi | refine Below.alloc_ ?_ _ | refine Below.drew ?_ | refine below_drewN ?_ | refine Below.setCell ?_ (by first | (simp; done) | (simp; omega)) _)) hw1)).mono ?_); rintro e w2 ⟨rfl, hb2⟩; exact ⟨rfl, (hw1.trans (hb2.mono hw1.size)).mono (by simp)⟩)))); refine hK _ ?_; clear hK K; try simp only [Act.put, List.setIfInBounds_toArray, List.set_cons_zero, List.set_cons_succ])
            refine wpQuiet_nil ?_
            intro wj hb_wj
            have hc_wj := (bcell hb_wj).1
            have hf_wj := (bcell hb_wj).2
            go_wp2
            go_ret
            exact ⟨by simp, (by repeat (first | exact Below.refl _ _ | exact hb_wa | refine Below.on ?_ hb_wa | exact hb_wb | refine Below.on ?_ hb_wb | exact hb_wc | refine Below.on ?_ hb_wc | exact hb_wd | refine Below.on ?_ hb_wd | exact hb_we | refine Below.on ?_ hb_we | exact hb_wf | refine Below.on ?_ hb_wf | exact hb_wg | refine Below.on ?_ hb_wg | exact hb_wh | refine Below.on ?_ hb_wh | exact hb_wi | refine Below.on ?_ hb_wi | exact hb_wj | refine Below.on ?_ hb_wj | refine Below.alloc_ ?_ _ | refine Below.drew ?_ | refine below_drewN ?_ | refine Below.setCell ?_ (by first | (simp; done) | (simp; omega)) _))⟩
          · rw [hnx] at NX
            obtain ⟨v1, v2, v3⟩ := D5 x y hnx
            have RY := fun w1 h => RY.out w1 h x y v1 v3
            rw [v2] at RY
            replace NX := Lib.hid NX
            replace RY := Lib.hid RY
            clear D4 D5 v1 v2
            go_wp2_with fail
            refine (NX.out _ (by repeat (first | exact Below.refl _ _ | exact hb_wb | refine Below.on ?_ hb_wb | exact hb_wc | refine Below.on ?_ hb_wc | exact hb_wd | refine Below.on ?_ hb_wd | exact hb_we | refine Below.on ?_ hb_we | exact hb_wf | refine Below.on ?_ hb_wf | exact hb_wg | refine Below.on ?_ hb_wg | exact hb_wh | refine Below.on ?_ hb_wh | refine Below.alloc_ ?_ _ | refine Below.drew ?_ | refine below_drewN ?_ | refine Below.setCell ?_ (by first | (simp; done) | (simp; omega)) _))).mono ?_
            rintro e wi ⟨rfl, hb_wi⟩
            have hc_wi := (bcell hb_wi).1
            have hf_wi := (bcell hb_wi).2
            have hz_wi_0 : w.heap.size < wi.heap.size := by have h_ := hb_wi.size; (try simp at h_); omega
            have hz_wi_1 : w.heap.size + 1 < wi.heap.size := by have h_ := hb_wi.size; (try simp at h_); omega
            have hz_wi_2 : w.heap.size + 1 + 1 < wi.heap.size := by have h_ := hb_wi.size; (try simp at h_); omega
            go_wp2_with fail
            refine (RY.out _ (by repeat (first | exact Below.refl _ _ | exact hb_wb | refine Below.on ?_ hb_wb | exact hb_wc | refine Below.on ?_ hb_wc | exact hb_wd | refine Below.on ?_ hb_wd | exact hb_we | refine Below.on ?_ hb_we | exact hb_wf | refine Below.on ?_ hb_wf | exact hb_wg | refine Below.on ?_ hb_wg | exact hb_wh | refine Below.on ?_ hb_wh | exact hb_wi | refine Below.on ?_ hb_wi | refine Below.alloc_ ?_ _ | refine Below.drew ?_ | refine below_drewN ?_ | refine Below.setCell ?_ (by first | (simp; done) | (simp; omega)) _))).mono ?_
            rintro e wj ⟨rfl, hb_wj⟩
            have hc_wj := (bcell hb_wj).1
            have hf_wj := (bcell hb_wj).2
            go_wp2
            go_ret
            exact ⟨by simp, (by repeat (first | exact Below.refl _ _ | exact hb_wa | refine Below.on ?_ hb_wa | exact hb_wb | refine Below.on ?_ hb_wb | exact hb_wc | refine Below.on ?_ hb_wc | exact hb_wd | refine Below.on ?_ hb_wd | exact hb_we | refine Below.on ?_ hb_we | exact hb_wf | refine Below.on ?_ hb_wf | exact hb_wg | refine Below.on ?_ hb_wg | exact hb_wh | refine Below.on ?_ hb_wh | exact hb_wi | refine Below.on ?_ hb_wi | exact hb_wj | refine Below.on ?_ hb_wj | refine Below.alloc_ ?_ _ | refine Below.drew ?_ | refine below_drewN ?_ | refine Below.setCell ?_ (by first | (simp; done) | (simp; omega)) _))⟩
      · have vb : validB c bn bd = false := by simpa using vb
        rw [vb] at VB
        go_wp2_with fail
        refine (VA.out _ (by repeat (first | exact Below.refl _ _ | exact hb_wb | refine Below.on ?_ hb_wb | refine Below.alloc_ ?_ _ | refine Below.drew ?_ | refine below_drewN ?_ | refine Below.setCell ?_ (by first | (simp; done) | (simp; omega)) _))).mono ?_
        rintro e wc ⟨rfl, hb_wc⟩
        have hc_wc := (bcell hb_wc).1
        have hf_wc := (bcell hb_wc).2
        have hz_wc_0 : w.heap.size < wc.heap.size := by have h_ := hb_wc.size; (try simp at h_); omega
        have hz_wc_1 : w.heap.size + 1 < wc.heap.size := by have h_ := hb_wc.size; (try simp at h_); omega
        have hz_wc_2 : w.heap.size + 1 + 1 < wc.heap.size := by have h_ := hb_wc.size; (try simp at h_); omega
        go_wp2_with fail
        refine (VB.out _ (by repeat (first | exact Below.refl _ _ | exact hb_wb | refine Below.on ?_ hb_wb | exact hb_wc | refine Below.on ?_ hb_wc | refine Below.alloc_ ?_ _ | refine Below.drew ?_ | refine below_drewN ?_ | refine Below.setCell ?_ (by first | (simp; done) | (simp; omega)) _))).mono ?_
        rintro e wd ⟨rfl, hb_wd⟩
        have hc_wd := (bcell hb_wd).1
        have hf_wd := (bcell hb_wd).2
        have hz_wd_0 : w.heap.size < wd.heap.size := by have h_ := hb_wd.size; (try simp at h_); omega
        have hz_wd_1 : w.heap.size + 1 < wd.heap.size := by have h_ := hb_wd.size; (try simp at h_); omega
        have hz_wd_2 : w.heap.size + 1 + 1 < wd.heap.size := by have h_ := hb_wd.size; (try simp at h_); omega
        go_wp2
        go_ret
        exact ⟨rfl, (by repeat (first | exact Below.refl _ _ | exact hb_wa | refine Below.on ?_ hb_wa | exact hb_wb | refine Below.on ?_ hb_wb | exact hb_wc | refine Below.on ?_ hb_wc | exact hb_wd | refine Below.on ?_ hb_wd | refine Below.alloc_ ?_ _ | refine Below.drew ?_ | refine below_drewN ?_ | refine Below.setCell ?_ (by first | (simp; done) | (simp; omega)) _))⟩
    · have va : validB c an ad = false := by simpa using va
      rw [va] at VA
      go_wp2_with fail
      refine (VA.out _ (by repeat (first | exact Below.refl _ _ | exact hb_wb | refine Below.on ?_ hb_wb | refine Below.alloc_ ?_ _ | refine Below.drew ?_ | refine below_drewN ?_ | refine Below.setCell ?_ (by first | (simp; done) | (simp; omega)) _))).mono ?_
      rintro e wc ⟨rfl, hb_wc⟩
      have hc_wc := (bcell hb_wc).1
      have hf_wc := (bcell hb_wc).2
      have hz_wc_0 : w.heap.size < wc.heap.size := by have h_ := hb_wc.size; (try simp at h_); omega
      have hz_wc_1 : w.heap.size + 1 < wc.heap.size := by have h_ := hb_wc.size; (try simp at h_); omega
      have hz_wc_2 : w.heap.size + 1 + 1 < wc.heap.size := by have h_ := hb_wc.size; (try simp at h_); omega
      go_wp2
      go_ret
      exact ⟨rfl, (by repeat (first | exact Below.refl _ _ | exact hb_wa | refine Below.on ?_ hb_wa | exact hb_wb | refine Below.on ?_ hb_wb | exact hb_wc | refine Below.on ?_ hb_wc | refine Below.alloc_ ?_ _ | refine Below.drew ?_ | refine below_drewN ?_ | refine Below.setCell ?_ (by first | (simp; done) | (simp; omega)) _))⟩
  · have hc_wa := (bcell hb_wa).1
    have hf_wa := (bcell hb_wa).2
    go_wp2
    go_ret
    exact ⟨rfl, (by repeat (first | exact Below.refl _ _ | exact hb_wa | refine Below.on ?_ hb_wa | refine Below.alloc_ ?_ _ | refine Below.drew ?_ | refine below_drewN ?_ | refine Below.setCell ?_ (by first | (simp; done) | (simp; omega)) _))⟩
theorem ranks_law (a0 a1 a2 a3 a4 a5 a6 a7 a8 a9 an ad bn bd : Int) (w : World) (h0 : (Lit.int .i64 a0).wf = true) (h1 : (Lit.int .i64 a1).wf = true) (h2 : (Lit.int .u64 a2).wf = true) (h3 : (Lit.int .u64 a3).wf = true) (h4 : (Lit.int .u64 a4).wf = true) (h5 : (Lit.int .u64 a5).wf = true) (h6 : (Lit.int .u64 a6).wf = true) (h7 : (Lit.int .u64 a7).wf = true) (h8 : (Lit.int .u64 a8).wf = true) (h9 : (Lit.int .u64 a9).wf = true) (h10 : (Lit.int .u64 an).wf = true) (h11 : (Lit.int .i64 ad).wf = true) (h12 : (Lit.int .u64 bn).wf = true) (h13 : (Lit.int .i64 bd).wf = true) :
    Calls Try.prog 8 #[.agg #[.int .i64 a0, .int .i64 a1, .int .u64 a2, .int .u64 a3, .int .u64 a4, .int .u64 a5, .int .u64 a6, .int .u64 a7, .int .u64 a8, .int .u64 a9], .agg #[.int .u64 an, .int .i64 ad], .agg #[.int .u64 bn, .int .i64 bd]] w fun e w' => e = .returned (.bool true) ∧ Below w.heap.size w w' :=
  ranks_walk ⟨a0, a1, a2, a3, a4, a5, a6, a7, a8, a9⟩ an ad bn bd w ⟨(wf_i64 h0).1, (wf_i64 h0).2, (wf_i64 h1).1, (wf_i64 h1).2, (wf_u64 h2).1, (wf_u64 h3).1, (wf_u64 h4).1, (wf_u64 h5).1, (wf_u64 h6).1, (wf_u64 h7).1, (wf_u64 h8).1, (wf_u64 h9).1⟩ (wf_u64 h10).1 (wf_u64 h12).1
end Go.Proofs.Ytehmbcpgendkjaa
