import Derived.Test.YtehmbcpgendkjaaRanksLaw
namespace Go.Proofs.Ytehmbcpgendkjaa
open Go.RowKit
set_option linter.unusedSimpArgs false
set_option linter.unusedVariables false
theorem next_top {c : Cfg} {n d x y : Int} (h : validB c n d = true) (hx : nextB c n d = none) (v : validB c x y = true) : lessB n d x y = false := by
  rw [validB_iff] at h v
  rw [lessB_false]
  unfold nextB at hx
  split at hx
  · simp at hx
  · split at hx
    · simp at hx
    · split at hx
      · omega
      · simp at hx
theorem next_above {c : Cfg} {n d x y : Int} (hf : 1 ≤ c.f) (hm : 1 ≤ c.mn) (h : validB c n d = true) (hx : nextB c n d = some (x, y)) : lessB n d x y = true ∧ ∀ u v, validB c u v = true → lessB n d u v = true → lessB u v x y = false := by
  rw [validB_iff] at h
  rw [lessB_true]
  unfold nextB at hx
  split at hx
  · simp only [Option.some.injEq, Prod.mk.injEq] at hx
    refine ⟨by omega, fun u v h1 h2 => ?_⟩
    rw [validB_iff] at h1
    rw [lessB_true] at h2
    rw [lessB_false]
    omega
  · split at hx
    · simp only [Option.some.injEq, Prod.mk.injEq] at hx
      refine ⟨by omega, fun u v h1 h2 => ?_⟩
      rw [validB_iff] at h1
      rw [lessB_true] at h2
      rw [lessB_false]
      omega
    · split at hx
      · simp at hx
      · simp only [Option.some.injEq, Prod.mk.injEq] at hx
        refine ⟨by omega, fun u v h1 h2 => ?_⟩
        rw [validB_iff] at h1
        rw [lessB_true] at h2
        rw [lessB_false]
        omega
theorem ownB_cases {c : Cfg} {n d q : Int} : ∃ m, ownB c n d q = (if c.mn < m then none else some (m, q)) ∧ (m = max n 1 ∧ lessB n d m q = true ∨ m = max n 1 + 1 ∧ lessB n d (max n 1) q = false) := by
  unfold ownB
  by_cases h : lessB n d (max n 1) q = true
  · exact ⟨max n 1, by simp [h], .inl ⟨rfl, h⟩⟩
  · exact ⟨max n 1 + 1, by simp [h], .inr ⟨rfl, by simpa using h⟩⟩
theorem own_top {c : Cfg} {n d q : Int} (h : validB c n d = true) (hx : ownB c n d q = none) (h1 : 1 ≤ c.mn) (u v : Int) (h2 : validB c u v = true) (h3 : lessB n d u v = true) : ¬ v = q := by
  rw [validB_iff] at h h2
  rw [lessB_true] at h3
  obtain ⟨m, e1, e2⟩ := @ownB_cases c n d q
  rw [e1] at hx
  rw [lessB_true, lessB_false] at e2
  split at hx
  · omega
  · simp at hx
theorem own_above {c : Cfg} {n d q x y : Int} (h : validB c n d = true) (h0 : 0 ≤ q ∧ q < 2 * c.f + 1) (hx : ownB c n d q = some (x, y)) : y = q ∧ 0 ≤ x ∧ validB c x y = true ∧ lessB n d x y = true ∧ ∀ u v, validB c u v = true → lessB n d u v = true → v = q → lessB u v x y = false := by
  rw [validB_iff] at h ⊢
  rw [lessB_true]
  obtain ⟨m, e1, e2⟩ := @ownB_cases c n d q
  rw [e1] at hx
  rw [lessB_true, lessB_false] at e2
  split at hx
  · simp at hx
  · simp only [Option.some.injEq, Prod.mk.injEq] at hx
    refine ⟨by omega, by omega, by omega, by omega, fun u v h1 h2 h3 => ?_⟩
    rw [validB_iff] at h1
    rw [lessB_true] at h2
    rw [lessB_false]
    omega
set_option maxHeartbeats 16000000 in
theorem between_walk (c : Cfg) (bn bd q xn xd : Int) (w : World) (ok : c.Ok) (h1 : 0 ≤ bn) (h2 : 0 ≤ xn) :
    Calls Try.prog 7 #[.agg #[.int .i64 c.f, .int .i64 c.mb, .int .u64 c.dl, .int .u64 c.wd, .int .u64 c.ev, .int .u64 c.bt, .int .u64 c.ep, .int .u64 c.em, .int .u64 c.mn, .int .u64 c.ms], .agg #[.int .u64 bn, .int .i64 bd], .int .i64 q, .agg #[.int .u64 xn, .int .i64 xd]] w fun e w' => e = .returned (.bool true) ∧ Below w.heap.size w w' := by
  go_enter Try.func7, Try.ntmps7
  go_wp2_with fail
  refine (lmade_any c _ ok).mono ?_
  rintro e wa (⟨hb, b, rfl, hlb, hg, hb_wa⟩ | ⟨hb, rfl, hb_wa⟩)
  · obtain ⟨⟨f1, f2⟩, _, _, _, _, _, _, _, ⟨m1, m2⟩, _⟩ := Cfg.valid hb
    have hc_wa := (bcell hb_wa).1
    have hf_wa := (bcell hb_wa).2
    have G : ∀ w1, Below wa.heap.size wa w1 → GrpAt w1 b c (2 * c.f + 1) := fun w1 h => hg.below hg.lt h
    replace G := Lib.hid G
    clear hb hg
    have hz_wa_0 : w.heap.size < wa.heap.size := by have h_ := hb_wa.size; (try simp at h_); omega
    have hz_wa_1 : w.heap.size + 1 < wa.heap.size := by have h_ := hb_wa.size; (try simp at h_); omega
    have hz_wa_2 : w.heap.size + 1 + 1 < wa.heap.size := by have h_ := hb_wa.size; (try simp at h_); omega
    have N0 : ∀ w1, Below wa.heap.size wa w1 → Calls Try.prog 23 #[.pointer (some ⟨b, 0, none⟩), .agg #[.int .u64 0, .int .i64 0]] w1 (GotB 1 0 w1) := fun w1 h => by
      have h_ := next_ok b c 0 0 w1 (G.out w1 h) f1 f2 (by omega) m2 (by simp [validB])
      rw [show nextB c 0 0 = some (1, 0) from by simp [nextB]] at h_
      exact h_
    have VB := fun w1 h => valid_at b c bn bd w1 (G.out w1 h) f1 f2 h1
    replace N0 := Lib.hid N0
    go_wp2_with fail
    refine (N0.out _ (by repeat (first | exact Below.refl _ _ | refine Below.alloc_ ?_ _ | refine Below.drew ?_ | refine below_drewN ?_ | refine Below.setCell ?_ (by first | (simp; done) | (simp; omega)) _))).mono ?_
    rintro e wb ⟨rfl, hb_wb⟩
    have hc_wb := (bcell hb_wb).1
    have hf_wb := (bcell hb_wb).2
    have hz_wb_0 : w.heap.size < wb.heap.size := by have h_ := hb_wb.size; (try simp at h_); omega
    have hz_wb_1 : w.heap.size + 1 < wb.heap.size := by have h_ := hb_wb.size; (try simp at h_); omega
    have hz_wb_2 : w.heap.size + 1 + 1 < wb.heap.size := by have h_ := hb_wb.size; (try simp at h_); omega
    by_cases vb : validB c bn bd = true
    · rw [vb] at VB
      have NX := fun w1 h => next_ok b c bn bd w1 (G.out w1 h) f1 f2 h1 m2 vb
      have ND : ∀ w1, Below wa.heap.size wa w1 → Calls Try.prog 24 #[.pointer (some ⟨b, 0, none⟩), .int .i64 q] w1 fun e w' => e = .returned (.bool (decide (0 ≤ q ∧ q < 2 * c.f + 1))) ∧ Below w1.heap.size w1 w' := fun w1 h =>
        sameB (node_at b (2 * c.f + 1) q w1 (G.out w1 h).nodes (by omega))
      have VX := fun w1 h => valid_at b c xn xd w1 (G.out w1 h) f1 f2 h2
      have LB := less_any bn bd xn xd
      replace vb := Lib.hid vb
      replace VB := Lib.hid VB
      go_wp2_with fail
      refine (VB.out _ (by repeat (first | exact Below.refl _ _ | exact hb_wb | refine Below.on ?_ hb_wb | refine Below.alloc_ ?_ _ | refine Below.drew ?_ | refine below_drewN ?_ | refine Below.setCell ?_ (by first | (simp; done) | (simp; omega)) _))).mono ?_
      rintro e wc ⟨rfl, hb_wc⟩
      have hc_wc := (bcell hb_wc).1
      have hf_wc := (bcell hb_wc).2
      have hz_wc_0 : w.heap.size < wc.heap.size := by have h_ := hb_wc.size; (try simp at h_); omega
      have hz_wc_1 : w.heap.size + 1 < wc.heap.size := by have h_ := hb_wc.size; (try simp at h_); omega
      have hz_wc_2 : w.heap.size + 1 + 1 < wc.heap.size := by have h_ := hb_wc.size; (try simp at h_); omega
      by_cases vx : validB c xn xd = true
      · rw [vx] at VX
        replace vx := Lib.hid vx
        replace VX := Lib.hid VX
        by_cases lbx : lessB bn bd xn xd = true
        · rw [lbx] at LB
          replace lbx := Lib.hid lbx
          replace LB := Lib.hid LB
          go_wp2_with fail
          refine (VX.out _ (by repeat (first | exact Below.refl _ _ | exact hb_wb | refine Below.on ?_ hb_wb | exact hb_wc | refine Below.on ?_ hb_wc | refine Below.alloc_ ?_ _ | refine Below.drew ?_ | refine below_drewN ?_ | refine Below.setCell ?_ (by first | (simp; done) | (simp; omega)) _))).mono ?_
          rintro e wd ⟨rfl, hb_wd⟩
          have hc_wd := (bcell hb_wd).1
          have hf_wd := (bcell hb_wd).2
          have hz_wd_0 : w.heap.size < wd.heap.size := by have h_ := hb_wd.size; (try simp at h_); omega
          have hz_wd_1 : w.heap.size + 1 < wd.heap.size := by have h_ := hb_wd.size; (try simp at h_); omega
          have hz_wd_2 : w.heap.size + 1 + 1 < wd.heap.size := by have h_ := hb_wd.size; (try simp at h_); omega
          go_wp2_with fail
          refine (LB.out _).mono ?_
          rintro e we ⟨rfl, hb_we⟩
          have hc_we := (bcell hb_we).1
          have hf_we := (bcell hb_we).2
          have hz_we_0 : w.heap.size < we.heap.size := by have h_ := hb_we.size; (try simp at h_); omega
          have hz_we_1 : w.heap.size + 1 < we.heap.size := by have h_ := hb_we.size; (try simp at h_); omega
          have hz_we_2 : w.heap.size + 1 + 1 < we.heap.size := by have h_ := hb_we.size; (try simp at h_); omega
          rcases hnx : nextB c bn bd with _ | ⟨x, y⟩
          · exact absurd (next_top vb.out hnx vx.out) (by rw [lbx.out]; simp)
          · rw [hnx] at NX
            obtain ⟨v1, _, v3⟩ := next_some f1 f2 m1 vb.out hnx
            obtain ⟨v4, v5⟩ := next_above f1 m1 vb.out hnx
            have VN := fun w1 h => valid_at b c x y w1 (G.out w1 h) f1 f2 v3
            rw [v1] at VN
            have LN := less_any bn bd x y
            rw [v4] at LN
            have LM := less_any xn xd x y
            rw [v5 _ _ vx.out lbx.out] at LM
            replace LM := Lib.hid LM
            replace NX := Lib.hid NX
            replace VN := Lib.hid VN
            replace LN := Lib.hid LN
            clear hnx v1 v4 v5
            go_wp2_with fail
            refine (NX.out _ (by repeat (first | exact Below.refl _ _ | exact hb_wb | refine Below.on ?_ hb_wb | exact hb_wc | refine Below.on ?_ hb_wc | exact hb_wd | refine Below.on ?_ hb_wd | exact hb_we | refine Below.on ?_ hb_we | refine Below.alloc_ ?_ _ | refine Below.drew ?_ | refine below_drewN ?_ | refine Below.setCell ?_ (by first | (simp; done) | (simp; omega)) _))).mono ?_
            rintro e wi ⟨rfl, hb_wi⟩
            have hc_wi := (bcell hb_wi).1
            have hf_wi := (bcell hb_wi).2
            have hz_wi_0 : w.heap.size < wi.heap.size := by have h_ := hb_wi.size; (try simp at h_); omega
            have hz_wi_1 : w.heap.size + 1 < wi.heap.size := by have h_ := hb_wi.size; (try simp at h_); omega
            have hz_wi_2 : w.heap.size + 1 + 1 < wi.heap.size := by have h_ := hb_wi.size; (try simp at h_); omega
            go_wp2_with fail
            refine (VN.out _ (by repeat (first | exact Below.refl _ _ | exact hb_wb | refine Below.on ?_ hb_wb | exact hb_wc | refine Below.on ?_ hb_wc | exact hb_wd | refine Below.on ?_ hb_wd | exact hb_we | refine Below.on ?_ hb_we | exact hb_wi | refine Below.on ?_ hb_wi | refine Below.alloc_ ?_ _ | refine Below.drew ?_ | refine below_drewN ?_ | refine Below.setCell ?_ (by first | (simp; done) | (simp; omega)) _))).mono ?_
            rintro e wj ⟨rfl, hb_wj⟩
            have hc_wj := (bcell hb_wj).1
            have hf_wj := (bcell hb_wj).2
            have hz_wj_0 : w.heap.size < wj.heap.size := by have h_ := hb_wj.size; (try simp at h_); omega
            have hz_wj_1 : w.heap.size + 1 < wj.heap.size := by have h_ := hb_wj.size; (try simp at h_); omega
            have hz_wj_2 : w.heap.size + 1 + 1 < wj.heap.size := by have h_ := hb_wj.size; (try simp at h_); omega
            have hz_i : wi.heap.size < wj.heap.size := by have h_ := hb_wj.size; (try simp at h_); omega
            go_wp2_with fail
            refine (LN.out _).mono ?_
            rintro e wk ⟨rfl, hb_wk⟩
            have hc_wk := (bcell hb_wk).1
            have hf_wk := (bcell hb_wk).2
            have hz_wk_0 : w.heap.size < wk.heap.size := by have h_ := hb_wk.size; (try simp at h_); omega
            have hz_wk_1 : w.heap.size + 1 < wk.heap.size := by have h_ := hb_wk.size; (try simp at h_); omega
            have hz_wk_2 : w.heap.size + 1 + 1 < wk.heap.size := by have h_ := hb_wk.size; (try simp at h_); omega
            have hz_j : wi.heap.size < wk.heap.size := by have h_ := hb_wk.size; (try simp at h_); omega
            go_wp2_with fail
            refine (LM.out _).mono ?_
            rintro e wl ⟨rfl, hb_wl⟩
            have hc_wl := (bcell hb_wl).1
            have hf_wl := (bcell hb_wl).2
            have hz_wl_0 : w.heap.size < wl.heap.size := by have h_ := hb_wl.size; (try simp at h_); omega
            have hz_wl_1 : w.heap.size + 1 < wl.heap.size := by have h_ := hb_wl.size; (try simp at h_); omega
            have hz_wl_2 : w.heap.size + 1 + 1 < wl.heap.size := by have h_ := hb_wl.size; (try simp at h_); omega
            by_cases nd : 0 ≤ q ∧ q < 2 * c.f + 1
            · have nd' : decide (0 ≤ q ∧ q < 2 * c.f + 1) = true := decide_eq_true nd
              rw [nd'] at ND
              replace ND := Lib.hid ND
              have OW : ∀ w1, Below wa.heap.size wa w1 → Calls Try.prog 25 #[.pointer (some ⟨b, 0, none⟩), .agg #[.int .u64 bn, .int .i64 bd], .int .i64 q] w1 fun e w' => match ownB c bn bd q with | some (y, z) => GotB y z w1 e w' | none => NoB 0 183 w1 e w' := fun w1 h => own_ok b c bn bd q w1 (G.out w1 h) f1 f2 h1 m1 m2 vb.out nd'
              clear nd'
              go_wp2_with fail
              refine (ND.out _ (by repeat (first | exact Below.refl _ _ | exact hb_wb | refine Below.on ?_ hb_wb | exact hb_wc | refine Below.on ?_ hb_wc | exact hb_wd | refine Below.on ?_ hb_wd | exact hb_we | refine Below.on ?_ hb_we | exact hb_wi | refine Below.on ?_ hb_wi | exact hb_wj | refine Below.on ?_ hb_wj | exact hb_wk | refine Below.on ?_ hb_wk | exact hb_wl | refine Below.on ?_ hb_wl | refine Below.alloc_ ?_ _ | refine Below.drew ?_ | refine below_drewN ?_ | refine Below.setCell ?_ (by first | (simp; done) | (simp; omega)) _))).mono ?_
              rintro e wn ⟨rfl, hb_wn⟩
              have hc_wn := (bcell hb_wn).1
              have hf_wn := (bcell hb_wn).2
              have hz_wn_0 : w.heap.size < wn.heap.size := by have h_ := hb_wn.size; (try simp at h_); omega
              have hz_wn_1 : w.heap.size + 1 < wn.heap.size := by have h_ := hb_wn.size; (try simp at h_); omega
              have hz_wn_2 : w.heap.size + 1 + 1 < wn.heap.size := by have h_ := hb_wn.size; (try simp at h_); omega
              rcases hox : ownB c bn bd q with _ | ⟨ox, oy⟩
              · rw [hox] at OW
                replace OW := Lib.hid OW
                have hne := own_top vb.out hox m1 _ _ vx.out lbx.out
                clear hox
                go_wp2_with fail
                refine (OW.out _ (by repeat (first | exact Below.refl _ _ | exact hb_wb | refine Below.on ?_ hb_wb | exact hb_wc | refine Below.on ?_ hb_wc | exact hb_wd | refine Below.on ?_ hb_wd | exact hb_we | refine Below.on ?_ hb_we | exact hb_wi | refine Below.on ?_ hb_wi | exact hb_wj | refine Below.on ?_ hb_wj | exact hb_wk | refine Below.on ?_ hb_wk | exact hb_wl | refine Below.on ?_ hb_wl | exact hb_wn | refine Below.on ?_ hb_wn | refine Below.alloc_ ?_ _ | refine Below.drew ?_ | refine below_drewN ?_ | refine Below.setCell ?_ (by first | (simp; done) | (simp; omega)) _))).mono ?_
                rintro e wo ⟨p, rfl, he, hb_wo⟩
                have hc_wo := (bcell hb_wo).1
                have hf_wo := (bcell hb_wo).2
                clear he
                have hz_wo_0 : w.heap.size < wo.heap.size := by have h_ := hb_wo.size; (try simp at h_); omega
                have hz_wo_1 : w.heap.size + 1 < wo.heap.size := by have h_ := hb_wo.size; (try simp at h_); omega
                have hz_wo_2 : w.heap.size + 1 + 1 < wo.heap.size := by have h_ := hb_wo.size; (try simp at h_); omega
                go_wp2
                go_ret
                exact ⟨by simp [hne], (by repeat (first | exact Below.refl _ _ | exact hb_wa | refine Below.on ?_ hb_wa | exact hb_wb | refine Below.on ?_ hb_wb | exact hb_wc | refine Below.on ?_ hb_wc | exact hb_wd | refine Below.on ?_ hb_wd | exact hb_we | refine Below.on ?_ hb_we | exact hb_wi | refine Below.on ?_ hb_wi | exact hb_wj | refine Below.on ?_ hb_wj | exact hb_wk | refine Below.on ?_ hb_wk | exact hb_wl | refine Below.on ?_ hb_wl | exact hb_wn | refine Below.on ?_ hb_wn | exact hb_wo | refine Below.on ?_ hb_wo | refine Below.alloc_ ?_ _ | refine Below.drew ?_ | refine below_drewN ?_ | refine Below.setCell ?_ (by first | (simp; done) | (simp; omega)) _))⟩
              · rw [hox] at OW
                obtain ⟨e1, e2, e3, e4, e5⟩ := own_above vb.out nd hox
                subst e1
                replace OW := Lib.hid OW
                clear hox
                have VO := fun w1 h => valid_at b c ox oy w1 (G.out w1 h) f1 f2 e2
                rw [e3] at VO
                have LO := less_any bn bd ox oy
                rw [e4] at LO
                replace VO := Lib.hid VO
                replace LO := Lib.hid LO
                replace e5 := Lib.hid e5
                clear e3 e4
                by_cases hq : xd = oy
                · skip
                  subst hq
                  have LX := less_any xn xd ox xd
                  rw [e5.out _ _ vx.out lbx.out rfl] at LX
                  replace LX := Lib.hid LX
                  go_wp2_with fail
                  refine (OW.out _ (by repeat (first | exact Below.refl _ _ | exact hb_wb | refine Below.on ?_ hb_wb | exact hb_wc | refine Below.on ?_ hb_wc | exact hb_wd | refine Below.on ?_ hb_wd | exact hb_we | refine Below.on ?_ hb_we | exact hb_wi | refine Below.on ?_ hb_wi | exact hb_wj | refine Below.on ?_ hb_wj | exact hb_wk | refine Below.on ?_ hb_wk | exact hb_wl | refine Below.on ?_ hb_wl | exact hb_wn | refine Below.on ?_ hb_wn | refine Below.alloc_ ?_ _ | refine Below.drew ?_ | refine below_drewN ?_ | refine Below.setCell ?_ (by first | (simp; done) | (simp; omega)) _))).mono ?_
                  rintro e wo ⟨rfl, hb_wo⟩
                  have hc_wo := (bcell hb_wo).1
                  have hf_wo := (bcell hb_wo).2
                  have hz_wo_0 : w.heap.size < wo.heap.size := by have h_ := hb_wo.size; (try simp at h_); omega
                  have hz_wo_1 : w.heap.size + 1 < wo.heap.size := by have h_ := hb_wo.size; (try simp at h_); omega
                  have hz_wo_2 : w.heap.size + 1 + 1 < wo.heap.size := by have h_ := hb_wo.size; (try simp at h_); omega
                  go_wp2_with fail
                  refine (VO.out _ (by repeat (first | exact Below.refl _ _ | exact hb_wb | refine Below.on ?_ hb_wb | exact hb_wc | refine Below.on ?_ hb_wc | exact hb_wd | refine Below.on ?_ hb_wd | exact hb_we | refine Below.on ?_ hb_we | exact hb_wi | refine Below.on ?_ hb_wi | exact hb_wj | refine Below.on ?_ hb_wj | exact hb_wk | refine Below.on ?_ hb_wk | exact hb_wl | refine Below.on ?_ hb_wl | exact hb_wn | refine Below.on ?_ hb_wn | exact hb_wo | refine Below.on ?_ hb_wo | refine Below.alloc_ ?_ _ | refine Below.drew ?_ | refine below_drewN ?_ | refine Below.setCell ?_ (by first | (simp; done) | (simp; omega)) _))).mono ?_
                  rintro e wp ⟨rfl, hb_wp⟩
                  have hc_wp := (bcell hb_wp).1
                  have hf_wp := (bcell hb_wp).2
                  have hz_wp_0 : w.heap.size < wp.heap.size := by have h_ := hb_wp.size; (try simp at h_); omega
                  have hz_wp_1 : w.heap.size + 1 < wp.heap.size := by have h_ := hb_wp.size; (try simp at h_); omega
                  have hz_wp_2 : w.heap.size + 1 + 1 < wp.heap.size := by have h_ := hb_wp.size; (try simp at h_); omega
                  have hz_o : wo.heap.size < wp.heap.size := by have h_ := hb_wp.size; (try simp at h_); omega
                  go_wp2_with fail
                  refine (LO.out _).mono ?_
                  rintro e wq ⟨rfl, hb_wq⟩
                  have hc_wq := (bcell hb_wq).1
                  have hf_wq := (bcell hb_wq).2
                  have hz_wq_0 : w.heap.size < wq.heap.size := by have h_ := hb_wq.size; (try simp at h_); omega
                  have hz_wq_1 : w.heap.size + 1 < wq.heap.size := by have h_ := hb_wq.size; (try simp at h_); omega
                  have hz_wq_2 : w.heap.size + 1 + 1 < wq.heap.size := by have h_ := hb_wq.size; (try simp at h_); omega
                  have hz_p : wo.heap.size < wq.heap.size := by have h_ := hb_wq.size; (try simp at h_); omega
                  go_wp2_with fail
                  refine (LX.out _).mono ?_
                  rintro e wr ⟨rfl, hb_wr⟩
                  have hc_wr := (bcell hb_wr).1
                  have hf_wr := (bcell hb_wr).2
                  go_wp2
                  go_ret
                  exact ⟨by simp, (by repeat (first | exact Below.refl _ _ | exact hb_wa | refine Below.on ?_ hb_wa | exact hb_wb | refine Below.on ?_ hb_wb | exact hb_wc | refine Below.on ?_ hb_wc | exact hb_wd | refine Below.on ?_ hb_wd | exact hb_we | refine Below.on ?_ hb_we | exact hb_wi | refine Below.on ?_ hb_wi | exact hb_wj | refine Below.on ?_ hb_wj | exact hb_wk | refine Below.on ?_ hb_wk | exact hb_wl | refine Below.on ?_ hb_wl | exact hb_wn | refine Below.on ?_ hb_wn | exact hb_wo | refine Below.on ?_ hb_wo | exact hb_wp | refine Below.on ?_ hb_wp | exact hb_wq | refine Below.on ?_ hb_wq | exact hb_wr | refine Below.on ?_ hb_wr | refine Below.alloc_ ?_ _ | refine Below.drew ?_ | refine below_drewN ?_ | refine Below.setCell ?_ (by first | (simp; done) | (simp; omega)) _))⟩
                · skip
                  go_wp2_with fail
                  refine (OW.out _ (by repeat (first | exact Below.refl _ _ | exact hb_wb | refine Below.on ?_ hb_wb | exact hb_wc | refine Below.on ?_ hb_wc | exact hb_wd | refine Below.on ?_ hb_wd | exact hb_we | refine Below.on ?_ hb_we | exact hb_wi | refine Below.on ?_ hb_wi | exact hb_wj | refine Below.on ?_ hb_wj | exact hb_wk | refine Below.on ?_ hb_wk | exact hb_wl | refine Below.on ?_ hb_wl | exact hb_wn | refine Below.on ?_ hb_wn | refine Below.alloc_ ?_ _ | refine Below.drew ?_ | refine below_drewN ?_ | refine Below.setCell ?_ (by first | (simp; done) | (simp; omega)) _))).mono ?_
                  rintro e wo ⟨rfl, hb_wo⟩
                  have hc_wo := (bcell hb_wo).1
                  have hf_wo := (bcell hb_wo).2
                  have hz_wo_0 : w.heap.size < wo.heap.size := by have h_ := hb_wo.size; (try simp at h_); omega
                  have hz_wo_1 : w.heap.size + 1 < wo.heap.size := by have h_ := hb_wo.size; (try simp at h_); omega
                  have hz_wo_2 : w.heap.size + 1 + 1 < wo.heap.size := by have h_ := hb_wo.size; (try simp at h_); omega
                  go_wp2_with fail
                  refine (VO.out _ (by repeat (first | exact Below.refl _ _ | exact hb_wb | refine Below.on ?_ hb_wb | exact hb_wc | refine Below.on ?_ hb_wc | exact hb_wd | refine Below.on ?_ hb_wd | exact hb_we | refine Below.on ?_ hb_we | exact hb_wi | refine Below.on ?_ hb_wi | exact hb_wj | refine Below.on ?_ hb_wj | exact hb_wk | refine Below.on ?_ hb_wk | exact hb_wl | refine Below.on ?_ hb_wl | exact hb_wn | refine Below.on ?_ hb_wn | exact hb_wo | refine Below.on ?_ hb_wo | refine Below.alloc_ ?_ _ | refine Below.drew ?_ | refine below_drewN ?_ | refine Below.setCell ?_ (by first | (simp; done) | (simp; omega)) _))).mono ?_
                  rintro e wp ⟨rfl, hb_wp⟩
                  have hc_wp := (bcell hb_wp).1
                  have hf_wp := (bcell hb_wp).2
                  have hz_wp_0 : w.heap.size < wp.heap.size := by have h_ := hb_wp.size; (try simp at h_); omega
                  have hz_wp_1 : w.heap.size + 1 < wp.heap.size := by have h_ := hb_wp.size; (try simp at h_); omega
                  have hz_wp_2 : w.heap.size + 1 + 1 < wp.heap.size := by have h_ := hb_wp.size; (try simp at h_); omega
                  have hz_o : wo.heap.size < wp.heap.size := by have h_ := hb_wp.size; (try simp at h_); omega
                  go_wp2_with fail
                  refine (LO.out _).mono ?_
                  rintro e wq ⟨rfl, hb_wq⟩
                  have hc_wq := (bcell hb_wq).1
                  have hf_wq := (bcell hb_wq).2
                  have hz_wq_0 : w.heap.size < wq.heap.size := by have h_ := hb_wq.size; (try simp at h_); omega
                  have hz_wq_1 : w.heap.size + 1 < wq.heap.size := by have h_ := hb_wq.size; (try simp at h_); omega
                  have hz_wq_2 : w.heap.size + 1 + 1 < wq.heap.size := by have h_ := hb_wq.size; (try simp at h_); omega
                  have hz_p : wo.heap.size < wq.heap.size := by have h_ := hb_wq.size; (try simp at h_); omega
                  go_wp2
                  go_ret
                  exact ⟨by simp, (by repeat (first | exact Below.refl _ _ | exact hb_wa | refine Below.on ?_ hb_wa | exact hb_wb | refine Below.on ?_ hb_wb | exact hb_wc | refine Below.on ?_ hb_wc | exact hb_wd | refine Below.on ?_ hb_wd | exact hb_we | refine Below.on ?_ hb_we | exact hb_wi | refine Below.on ?_ hb_wi | exact hb_wj | refine Below.on ?_ hb_wj | exact hb_wk | refine Below.on ?_ hb_wk | exact hb_wl | refine Below.on ?_ hb_wl | exact hb_wn | refine Below.on ?_ hb_wn | exact hb_wo | refine Below.on ?_ hb_wo | exact hb_wp | refine Below.on ?_ hb_wp | exact hb_wq | refine Below.on ?_ hb_wq | refine Below.alloc_ ?_ _ | refine Below.drew ?_ | refine below_drewN ?_ | refine Below.setCell ?_ (by first | (simp; done) | (simp; omega)) _))⟩
            · have nd : decide (0 ≤ q ∧ q < 2 * c.f + 1) = false := decide_eq_false nd
              rw [nd] at ND
              replace ND := Lib.hid ND
              clear nd
              go_wp2_with fail
              refine (ND.out _ (by repeat (first | exact Below.refl _ _ | exact hb_wb | refine Below.on ?_ hb_wb | exact hb_wc | refine Below.on ?_ hb_wc | exact hb_wd | refine Below.on ?_ hb_wd | exact hb_we | refine Below.on ?_ hb_we | exact hb_wi | refine Below.on ?_ hb_wi | exact hb_wj | refine Below.on ?_ hb_wj | exact hb_wk | refine Below.on ?_ hb_wk | exact hb_wl | refine Below.on ?_ hb_wl | refine Below.alloc_ ?_ _ | refine Below.drew ?_ | refine below_drewN ?_ | refine Below.setCell ?_ (by first | (simp; done) | (simp; omega)) _))).mono ?_
              rintro e wn ⟨rfl, hb_wn⟩
              have hc_wn := (bcell hb_wn).1
              have hf_wn := (bcell hb_wn).2
              go_wp2
              go_ret
              exact ⟨by simp, (by repeat (first | exact Below.refl _ _ | exact hb_wa | refine Below.on ?_ hb_wa | exact hb_wb | refine Below.on ?_ hb_wb | exact hb_wc | refine Below.on ?_ hb_wc | exact hb_wd | refine Below.on ?_ hb_wd | exact hb_we | refine Below.on ?_ hb_we | exact hb_wi | refine Below.on ?_ hb_wi | exact hb_wj | refine Below.on ?_ hb_wj | exact hb_wk | refine Below.on ?_ hb_wk | exact hb_wl | refine Below.on ?_ hb_wl | exact hb_wn | refine Below.on ?_ hb_wn | refine Below.alloc_ ?_ _ | refine Below.drew ?_ | refine below_drewN ?_ | refine Below.setCell ?_ (by first | (simp; done) | (simp; omega)) _))⟩
        · replace lbx : lessB bn bd xn xd = false := by simpa using lbx
          rw [lbx] at LB
          replace LB := Lib.hid LB
          clear lbx
          go_wp2_with fail
          refine (VX.out _ (by repeat (first | exact Below.refl _ _ | exact hb_wb | refine Below.on ?_ hb_wb | exact hb_wc | refine Below.on ?_ hb_wc | refine Below.alloc_ ?_ _ | refine Below.drew ?_ | refine below_drewN ?_ | refine Below.setCell ?_ (by first | (simp; done) | (simp; omega)) _))).mono ?_
          rintro e wd ⟨rfl, hb_wd⟩
          have hc_wd := (bcell hb_wd).1
          have hf_wd := (bcell hb_wd).2
          have hz_wd_0 : w.heap.size < wd.heap.size := by have h_ := hb_wd.size; (try simp at h_); omega
          have hz_wd_1 : w.heap.size + 1 < wd.heap.size := by have h_ := hb_wd.size; (try simp at h_); omega
          have hz_wd_2 : w.heap.size + 1 + 1 < wd.heap.size := by have h_ := hb_wd.size; (try simp at h_); omega
          go_wp2_with fail
          refine (LB.out _).mono ?_
          rintro e we ⟨rfl, hb_we⟩
          have hc_we := (bcell hb_we).1
          have hf_we := (bcell hb_we).2
          have hz_we_0 : w.heap.size < we.heap.size := by have h_ := hb_we.size; (try simp at h_); omega
          have hz_we_1 : w.heap.size + 1 < we.heap.size := by have h_ := hb_we.size; (try simp at h_); omega
          have hz_we_2 : w.heap.size + 1 + 1 < we.heap.size := by have h_ := hb_we.size; (try simp at h_); omega
          rcases hnx : nextB c bn bd with _ | ⟨x, y⟩
          · rw [hnx] at NX
            replace NX := Lib.hid NX
            clear hnx
            go_wp2_with fail
            refine (NX.out _ (by repeat (first | exact Below.refl _ _ | exact hb_wb | refine Below.on ?_ hb_wb | exact hb_wc | refine Below.on ?_ hb_wc | exact hb_wd | refine Below.on ?_ hb_wd | exact hb_we | refine Below.on ?_ hb_we | refine Below.alloc_ ?_ _ | refine Below.drew ?_ | refine below_drewN ?_ | refine Below.setCell ?_ (by first | (simp; done) | (simp; omega)) _))).mono ?_
            rintro e wi ⟨p, rfl, he, hb_wi⟩
            have hc_wi := (bcell hb_wi).1
            have hf_wi := (bcell hb_wi).2
            clear he
            have hz_wi_0 : w.heap.size < wi.heap.size := by have h_ := hb_wi.size; (try simp at h_); omega
            have hz_wi_1 : w.heap.size + 1 < wi.heap.size := by have h_ := hb_wi.size; (try simp at h_); omega
            have hz_wi_2 : w.heap.size + 1 + 1 < wi.heap.size := by have h_ := hb_wi.size; (try simp at h_); omega
            by_cases nd : 0 ≤ q ∧ q < 2 * c.f + 1
            · have nd' : decide (0 ≤ q ∧ q < 2 * c.f + 1) = true := decide_eq_true nd
              rw [nd'] at ND
              replace ND := Lib.hid ND
              have OW : ∀ w1, Below wa.heap.size wa w1 → Calls Try.prog 25 #[.pointer (some ⟨b, 0, none⟩), .agg #[.int .u64 bn, .int .i64 bd], .int .i64 q] w1 fun e w' => match ownB c bn bd q with | some (y, z) => GotB y z w1 e w' | none => NoB 0 183 w1 e w' := fun w1 h => own_ok b c bn bd q w1 (G.out w1 h) f1 f2 h1 m1 m2 vb.out nd'
              clear nd'
              go_wp2_with fail
              refine (ND.out _ (by repeat (first | exact Below.refl _ _ | exact hb_wb | refine Below.on ?_ hb_wb | exact hb_wc | refine Below.on ?_ hb_wc | exact hb_wd | refine Below.on ?_ hb_wd | exact hb_we | refine Below.on ?_ hb_we | exact hb_wi | refine Below.on ?_ hb_wi | refine Below.alloc_ ?_ _ | refine Below.drew ?_ | refine below_drewN ?_ | refine Below.setCell ?_ (by first | (simp; done) | (simp; omega)) _))).mono ?_
              rintro e wn ⟨rfl, hb_wn⟩
              have hc_wn := (bcell hb_wn).1
              have hf_wn := (bcell hb_wn).2
              have hz_wn_0 : w.heap.size < wn.heap.size := by have h_ := hb_wn.size; (try simp at h_); omega
              have hz_wn_1 : w.heap.size + 1 < wn.heap.size := by have h_ := hb_wn.size; (try simp at h_); omega
              have hz_wn_2 : w.heap.size + 1 + 1 < wn.heap.size := by have h_ := hb_wn.size; (try simp at h_); omega
              rcases hox : ownB c bn bd q with _ | ⟨ox, oy⟩
              · rw [hox] at OW
                replace OW := Lib.hid OW
                clear hox
                go_wp2_with fail
                refine (OW.out _ (by repeat (first | exact Below.refl _ _ | exact hb_wb | refine Below.on ?_ hb_wb | exact hb_wc | refine Below.on ?_ hb_wc | exact hb_wd | refine Below.on ?_ hb_wd | exact hb_we | refine Below.on ?_ hb_we | exact hb_wi | refine Below.on ?_ hb_wi | exact hb_wn | refine Below.on ?_ hb_wn | refine Below.alloc_ ?_ _ | refine Below.drew ?_ | refine below_drewN ?_ | refine Below.setCell ?_ (by first | (simp; done) | (simp; omega)) _))).mono ?_
                rintro e wo ⟨p, rfl, he, hb_wo⟩
                have hc_wo := (bcell hb_wo).1
                have hf_wo := (bcell hb_wo).2
                clear he
                have hz_wo_0 : w.heap.size < wo.heap.size := by have h_ := hb_wo.size; (try simp at h_); omega
                have hz_wo_1 : w.heap.size + 1 < wo.heap.size := by have h_ := hb_wo.size; (try simp at h_); omega
                have hz_wo_2 : w.heap.size + 1 + 1 < wo.heap.size := by have h_ := hb_wo.size; (try simp at h_); omega
                go_wp2
                go_ret
                exact ⟨by simp, (by repeat (first | exact Below.refl _ _ | exact hb_wa | refine Below.on ?_ hb_wa | exact hb_wb | refine Below.on ?_ hb_wb | exact hb_wc | refine Below.on ?_ hb_wc | exact hb_wd | refine Below.on ?_ hb_wd | exact hb_we | refine Below.on ?_ hb_we | exact hb_wi | refine Below.on ?_ hb_wi | exact hb_wn | refine Below.on ?_ hb_wn | exact hb_wo | refine Below.on ?_ hb_wo | refine Below.alloc_ ?_ _ | refine Below.drew ?_ | refine below_drewN ?_ | refine Below.setCell ?_ (by first | (simp; done) | (simp; omega)) _))⟩
              · rw [hox] at OW
                obtain ⟨e1, e2, e3, e4, e5⟩ := own_above vb.out nd hox
                subst e1
                replace OW := Lib.hid OW
                clear hox
                have VO := fun w1 h => valid_at b c ox oy w1 (G.out w1 h) f1 f2 e2
                rw [e3] at VO
                have LO := less_any bn bd ox oy
                rw [e4] at LO
                replace VO := Lib.hid VO
                replace LO := Lib.hid LO
                replace e5 := Lib.hid e5
                clear e3 e4
                go_wp2_with fail
                refine (OW.out _ (by repeat (first | exact Below.refl _ _ | exact hb_wb | refine Below.on ?_ hb_wb | exact hb_wc | refine Below.on ?_ hb_wc | exact hb_wd | refine Below.on ?_ hb_wd | exact hb_we | refine Below.on ?_ hb_we | exact hb_wi | refine Below.on ?_ hb_wi | exact hb_wn | refine Below.on ?_ hb_wn | refine Below.alloc_ ?_ _ | refine Below.drew ?_ | refine below_drewN ?_ | refine Below.setCell ?_ (by first | (simp; done) | (simp; omega)) _))).mono ?_
                rintro e wo ⟨rfl, hb_wo⟩
                have hc_wo := (bcell hb_wo).1
                have hf_wo := (bcell hb_wo).2
                have hz_wo_0 : w.heap.size < wo.heap.size := by have h_ := hb_wo.size; (try simp at h_); omega
                have hz_wo_1 : w.heap.size + 1 < wo.heap.size := by have h_ := hb_wo.size; (try simp at h_); omega
                have hz_wo_2 : w.heap.size + 1 + 1 < wo.heap.size := by have h_ := hb_wo.size; (try simp at h_); omega
                go_wp2_with fail
                refine (VO.out _ (by repeat (first | exact Below.refl _ _ | exact hb_wb | refine Below.on ?_ hb_wb | exact hb_wc | refine Below.on ?_ hb_wc | exact hb_wd | refine Below.on ?_ hb_wd | exact hb_we | refine Below.on ?_ hb_we | exact hb_wi | refine Below.on ?_ hb_wi | exact hb_wn | refine Below.on ?_ hb_wn | exact hb_wo | refine Below.on ?_ hb_wo | refine Below.alloc_ ?_ _ | refine Below.drew ?_ | refine below_drewN ?_ | refine Below.setCell ?_ (by first | (simp; done) | (simp; omega)) _))).mono ?_
                rintro e wp ⟨rfl, hb_wp⟩
                have hc_wp := (bcell hb_wp).1
                have hf_wp := (bcell hb_wp).2
                have hz_wp_0 : w.heap.size < wp.heap.size := by have h_ := hb_wp.size; (try simp at h_); omega
                have hz_wp_1 : w.heap.size + 1 < wp.heap.size := by have h_ := hb_wp.size; (try simp at h_); omega
                have hz_wp_2 : w.heap.size + 1 + 1 < wp.heap.size := by have h_ := hb_wp.size; (try simp at h_); omega
                have hz_o : wo.heap.size < wp.heap.size := by have h_ := hb_wp.size; (try simp at h_); omega
                go_wp2_with fail
                refine (LO.out _).mono ?_
                rintro e wq ⟨rfl, hb_wq⟩
                have hc_wq := (bcell hb_wq).1
                have hf_wq := (bcell hb_wq).2
                have hz_wq_0 : w.heap.size < wq.heap.size := by have h_ := hb_wq.size; (try simp at h_); omega
                have hz_wq_1 : w.heap.size + 1 < wq.heap.size := by have h_ := hb_wq.size; (try simp at h_); omega
                have hz_wq_2 : w.heap.size + 1 + 1 < wq.heap.size := by have h_ := hb_wq.size; (try simp at h_); omega
                have hz_p : wo.heap.size < wq.heap.size := by have h_ := hb_wq.size; (try simp at h_); omega
                go_wp2
                go_ret
                exact ⟨by simp, (by repeat (first | exact Below.refl _ _ | exact hb_wa | refine Below.on ?_ hb_wa | exact hb_wb | refine Below.on ?_ hb_wb | exact hb_wc | refine Below.on ?_ hb_wc | exact hb_wd | refine Below.on ?_ hb_wd | exact hb_we | refine Below.on ?_ hb_we | exact hb_wi | refine Below.on ?_ hb_wi | exact hb_wn | refine Below.on ?_ hb_wn | exact hb_wo | refine Below.on ?_ hb_wo | exact hb_wp | refine Below.on ?_ hb_wp | exact hb_wq | refine Below.on ?_ hb_wq | refine Below.alloc_ ?_ _ | refine Below.drew ?_ | refine below_drewN ?_ | refine Below.setCell ?_ (by first | (simp; done) | (simp; omega)) _))⟩
            · have nd : decide (0 ≤ q ∧ q < 2 * c.f + 1) = false := decide_eq_false nd
              rw [nd] at ND
              replace ND := Lib.hid ND
              clear nd
              go_wp2_with fail
              refine (ND.out _ (by repeat (first | exact Below.refl _ _ | exact hb_wb | refine Below.on ?_ hb_wb | exact hb_wc | refine Below.on ?_ hb_wc | exact hb_wd | refine Below.on ?_ hb_wd | exact hb_we | refine Below.on ?_ hb_we | exact hb_wi | refine Below.on ?_ hb_wi | refine Below.alloc_ ?_ _ | refine Below.drew ?_ | refine below_drewN ?_ | refine Below.setCell ?_ (by first | (simp; done) | (simp; omega)) _))).mono ?_
              rintro e wn ⟨rfl, hb_wn⟩
              have hc_wn := (bcell hb_wn).1
              have hf_wn := (bcell hb_wn).2
              go_wp2
              go_ret
              exact ⟨by simp, (by repeat (first | exact Below.refl _ _ | exact hb_wa | refine Below.on ?_ hb_wa | exact hb_wb | refine Below.on ?_ hb_wb | exact hb_wc | refine Below.on ?_ hb_wc | exact hb_wd | refine Below.on ?_ hb_wd | exact hb_we | refine Below.on ?_ hb_we | exact hb_wi | refine Below.on ?_ hb_wi | exact hb_wn | refine Below.on ?_ hb_wn | refine Below.alloc_ ?_ _ | refine Below.drew ?_ | refine below_drewN ?_ | refine Below.setCell ?_ (by first | (simp; done) | (simp; omega)) _))⟩
          · rw [hnx] at NX
            obtain ⟨v1, _, v3⟩ := next_some f1 f2 m1 vb.out hnx
            obtain ⟨v4, v5⟩ := next_above f1 m1 vb.out hnx
            have VN := fun w1 h => valid_at b c x y w1 (G.out w1 h) f1 f2 v3
            rw [v1] at VN
            have LN := less_any bn bd x y
            rw [v4] at LN
            replace NX := Lib.hid NX
            replace VN := Lib.hid VN
            replace LN := Lib.hid LN
            clear hnx v1 v4 v5
            go_wp2_with fail
            refine (NX.out _ (by repeat (first | exact Below.refl _ _ | exact hb_wb | refine Below.on ?_ hb_wb | exact hb_wc | refine Below.on ?_ hb_wc | exact hb_wd | refine Below.on ?_ hb_wd | exact hb_we | refine Below.on ?_ hb_we | refine Below.alloc_ ?_ _ | refine Below.drew ?_ | refine below_drewN ?_ | refine Below.setCell ?_ (by first | (simp; done) | (simp; omega)) _))).mono ?_
            rintro e wi ⟨rfl, hb_wi⟩
            have hc_wi := (bcell hb_wi).1
            have hf_wi := (bcell hb_wi).2
            have hz_wi_0 : w.heap.size < wi.heap.size := by have h_ := hb_wi.size; (try simp at h_); omega
            have hz_wi_1 : w.heap.size + 1 < wi.heap.size := by have h_ := hb_wi.size; (try simp at h_); omega
            have hz_wi_2 : w.heap.size + 1 + 1 < wi.heap.size := by have h_ := hb_wi.size; (try simp at h_); omega
            go_wp2_with fail
            refine (VN.out _ (by repeat (first | exact Below.refl _ _ | exact hb_wb | refine Below.on ?_ hb_wb | exact hb_wc | refine Below.on ?_ hb_wc | exact hb_wd | refine Below.on ?_ hb_wd | exact hb_we | refine Below.on ?_ hb_we | exact hb_wi | refine Below.on ?_ hb_wi | refine Below.alloc_ ?_ _ | refine Below.drew ?_ | refine below_drewN ?_ | refine Below.setCell ?_ (by first | (simp; done) | (simp; omega)) _))).mono ?_
            rintro e wj ⟨rfl, hb_wj⟩
            have hc_wj := (bcell hb_wj).1
            have hf_wj := (bcell hb_wj).2
            have hz_wj_0 : w.heap.size < wj.heap.size := by have h_ := hb_wj.size; (try simp at h_); omega
            have hz_wj_1 : w.heap.size + 1 < wj.heap.size := by have h_ := hb_wj.size; (try simp at h_); omega
            have hz_wj_2 : w.heap.size + 1 + 1 < wj.heap.size := by have h_ := hb_wj.size; (try simp at h_); omega
            have hz_i : wi.heap.size < wj.heap.size := by have h_ := hb_wj.size; (try simp at h_); omega
            go_wp2_with fail
            refine (LN.out _).mono ?_
            rintro e wk ⟨rfl, hb_wk⟩
            have hc_wk := (bcell hb_wk).1
            have hf_wk := (bcell hb_wk).2
            have hz_wk_0 : w.heap.size < wk.heap.size := by have h_ := hb_wk.size; (try simp at h_); omega
            have hz_wk_1 : w.heap.size + 1 < wk.heap.size := by have h_ := hb_wk.size; (try simp at h_); omega
            have hz_wk_2 : w.heap.size + 1 + 1 < wk.heap.size := by have h_ := hb_wk.size; (try simp at h_); omega
            have hz_j : wi.heap.size < wk.heap.size := by have h_ := hb_wk.size; (try simp at h_); omega
            by_cases nd : 0 ≤ q ∧ q < 2 * c.f + 1
            · have nd' : decide (0 ≤ q ∧ q < 2 * c.f + 1) = true := decide_eq_true nd
              rw [nd'] at ND
              replace ND := Lib.hid ND
              have OW : ∀ w1, Below wa.heap.size wa w1 → Calls Try.prog 25 #[.pointer (some ⟨b, 0, none⟩), .agg #[.int .u64 bn, .int .i64 bd], .int .i64 q] w1 fun e w' => match ownB c bn bd q with | some (y, z) => GotB y z w1 e w' | none => NoB 0 183 w1 e w' := fun w1 h => own_ok b c bn bd q w1 (G.out w1 h) f1 f2 h1 m1 m2 vb.out nd'
              clear nd'
              go_wp2_with fail
              refine (ND.out _ (by repeat (first | exact Below.refl _ _ | exact hb_wb | refine Below.on ?_ hb_wb | exact hb_wc | refine Below.on ?_ hb_wc | exact hb_wd | refine Below.on ?_ hb_wd | exact hb_we | refine Below.on ?_ hb_we | exact hb_wi | refine Below.on ?_ hb_wi | exact hb_wj | refine Below.on ?_ hb_wj | exact hb_wk | refine Below.on ?_ hb_wk | refine Below.alloc_ ?_ _ | refine Below.drew ?_ | refine below_drewN ?_ | refine Below.setCell ?_ (by first | (simp; done) | (simp; omega)) _))).mono ?_
              rintro e wn ⟨rfl, hb_wn⟩
              have hc_wn := (bcell hb_wn).1
              have hf_wn := (bcell hb_wn).2
              have hz_wn_0 : w.heap.size < wn.heap.size := by have h_ := hb_wn.size; (try simp at h_); omega
              have hz_wn_1 : w.heap.size + 1 < wn.heap.size := by have h_ := hb_wn.size; (try simp at h_); omega
              have hz_wn_2 : w.heap.size + 1 + 1 < wn.heap.size := by have h_ := hb_wn.size; (try simp at h_); omega
              rcases hox : ownB c bn bd q with _ | ⟨ox, oy⟩
              · rw [hox] at OW
                replace OW := Lib.hid OW
                clear hox
                go_wp2_with fail
                refine (OW.out _ (by repeat (first | exact Below.refl _ _ | exact hb_wb | refine Below.on ?_ hb_wb | exact hb_wc | refine Below.on ?_ hb_wc | exact hb_wd | refine Below.on ?_ hb_wd | exact hb_we | refine Below.on ?_ hb_we | exact hb_wi | refine Below.on ?_ hb_wi | exact hb_wj | refine Below.on ?_ hb_wj | exact hb_wk | refine Below.on ?_ hb_wk | exact hb_wn | refine Below.on ?_ hb_wn | refine Below.alloc_ ?_ _ | refine Below.drew ?_ | refine below_drewN ?_ | refine Below.setCell ?_ (by first | (simp; done) | (simp; omega)) _))).mono ?_
                rintro e wo ⟨p, rfl, he, hb_wo⟩
                have hc_wo := (bcell hb_wo).1
                have hf_wo := (bcell hb_wo).2
                clear he
                have hz_wo_0 : w.heap.size < wo.heap.size := by have h_ := hb_wo.size; (try simp at h_); omega
                have hz_wo_1 : w.heap.size + 1 < wo.heap.size := by have h_ := hb_wo.size; (try simp at h_); omega
                have hz_wo_2 : w.heap.size + 1 + 1 < wo.heap.size := by have h_ := hb_wo.size; (try simp at h_); omega
                go_wp2
                go_ret
                exact ⟨by simp, (by repeat (first | exact Below.refl _ _ | exact hb_wa | refine Below.on ?_ hb_wa | exact hb_wb | refine Below.on ?_ hb_wb | exact hb_wc | refine Below.on ?_ hb_wc | exact hb_wd | refine Below.on ?_ hb_wd | exact hb_we | refine Below.on ?_ hb_we | exact hb_wi | refine Below.on ?_ hb_wi | exact hb_wj | refine Below.on ?_ hb_wj | exact hb_wk | refine Below.on ?_ hb_wk | exact hb_wn | refine Below.on ?_ hb_wn | exact hb_wo | refine Below.on ?_ hb_wo | refine Below.alloc_ ?_ _ | refine Below.drew ?_ | refine below_drewN ?_ | refine Below.setCell ?_ (by first | (simp; done) | (simp; omega)) _))⟩
              · rw [hox] at OW
                obtain ⟨e1, e2, e3, e4, e5⟩ := own_above vb.out nd hox
                subst e1
                replace OW := Lib.hid OW
                clear hox
                have VO := fun w1 h => valid_at b c ox oy w1 (G.out w1 h) f1 f2 e2
                rw [e3] at VO
                have LO := less_any bn bd ox oy
                rw [e4] at LO
                replace VO := Lib.hid VO
                replace LO := Lib.hid LO
                replace e5 := Lib.hid e5
                clear e3 e4
                go_wp2_with fail
                refine (OW.out _ (by repeat (first | exact Below.refl _ _ | exact hb_wb | refine Below.on ?_ hb_wb | exact hb_wc | refine Below.on ?_ hb_wc | exact hb_wd | refine Below.on ?_ hb_wd | exact hb_we | refine Below.on ?_ hb_we | exact hb_wi | refine Below.on ?_ hb_wi | exact hb_wj | refine Below.on ?_ hb_wj | exact hb_wk | refine Below.on ?_ hb_wk | exact hb_wn | refine Below.on ?_ hb_wn | refine Below.alloc_ ?_ _ | refine Below.drew ?_ | refine below_drewN ?_ | refine Below.setCell ?_ (by first | (simp; done) | (simp; omega)) _))).mono ?_
                rintro e wo ⟨rfl, hb_wo⟩
                have hc_wo := (bcell hb_wo).1
                have hf_wo := (bcell hb_wo).2
                have hz_wo_0 : w.heap.size < wo.heap.size := by have h_ := hb_wo.size; (try simp at h_); omega
                have hz_wo_1 : w.heap.size + 1 < wo.heap.size := by have h_ := hb_wo.size; (try simp at h_); omega
                have hz_wo_2 : w.heap.size + 1 + 1 < wo.heap.size := by have h_ := hb_wo.size; (try simp at h_); omega
                go_wp2_with fail
                refine (VO.out _ (by repeat (first | exact Below.refl _ _ | exact hb_wb | refine Below.on ?_ hb_wb | exact hb_wc | refine Below.on ?_ hb_wc | exact hb_wd | refine Below.on ?_ hb_wd | exact hb_we | refine Below.on ?_ hb_we | exact hb_wi | refine Below.on ?_ hb_wi | exact hb_wj | refine Below.on ?_ hb_wj | exact hb_wk | refine Below.on ?_ hb_wk | exact hb_wn | refine Below.on ?_ hb_wn | exact hb_wo | refine Below.on ?_ hb_wo | refine Below.alloc_ ?_ _ | refine Below.drew ?_ | refine below_drewN ?_ | refine Below.setCell ?_ (by first | (simp; done) | (simp; omega)) _))).mono ?_
                rintro e wp ⟨rfl, hb_wp⟩
                have hc_wp := (bcell hb_wp).1
                have hf_wp := (bcell hb_wp).2
                have hz_wp_0 : w.heap.size < wp.heap.size := by have h_ := hb_wp.size; (try simp at h_); omega
                have hz_wp_1 : w.heap.size + 1 < wp.heap.size := by have h_ := hb_wp.size; (try simp at h_); omega
                have hz_wp_2 : w.heap.size + 1 + 1 < wp.heap.size := by have h_ := hb_wp.size; (try simp at h_); omega
                have hz_o : wo.heap.size < wp.heap.size := by have h_ := hb_wp.size; (try simp at h_); omega
                go_wp2_with fail
                refine (LO.out _).mono ?_
                rintro e wq ⟨rfl, hb_wq⟩
                have hc_wq := (bcell hb_wq).1
                have hf_wq := (bcell hb_wq).2
                have hz_wq_0 : w.heap.size < wq.heap.size := by have h_ := hb_wq.size; (try simp at h_); omega
                have hz_wq_1 : w.heap.size + 1 < wq.heap.size := by have h_ := hb_wq.size; (try simp at h_); omega
                have hz_wq_2 : w.heap.size + 1 + 1 < wq.heap.size := by have h_ := hb_wq.size; (try simp at h_); omega
                have hz_p : wo.heap.size < wq.heap.size := by have h_ := hb_wq.size; (try simp at h_); omega
                go_wp2
                go_ret
                exact ⟨by simp, (by repeat (first | exact Below.refl _ _ | exact hb_wa | refine Below.on ?_ hb_wa | exact hb_wb | refine Below.on ?_ hb_wb | exact hb_wc | refine Below.on ?_ hb_wc | exact hb_wd | refine Below.on ?_ hb_wd | exact hb_we | refine Below.on ?_ hb_we | exact hb_wi | refine Below.on ?_ hb_wi | exact hb_wj | refine Below.on ?_ hb_wj | exact hb_wk | refine Below.on ?_ hb_wk | exact hb_wn | refine Below.on ?_ hb_wn | exact hb_wo | refine Below.on ?_ hb_wo | exact hb_wp | refine Below.on ?_ hb_wp | exact hb_wq | refine Below.on ?_ hb_wq | refine Below.alloc_ ?_ _ | refine Below.drew ?_ | refine below_drewN ?_ | refine Below.setCell ?_ (by first | (simp; done) | (simp; omega)) _))⟩
            · have nd : decide (0 ≤ q ∧ q < 2 * c.f + 1) = false := decide_eq_false nd
              rw [nd] at ND
              replace ND := Lib.hid ND
              clear nd
              go_wp2_with fail
              refine (ND.out _ (by repeat (first | exact Below.refl _ _ | exact hb_wb | refine Below.on ?_ hb_wb | exact hb_wc | refine Below.on ?_ hb_wc | exact hb_wd | refine Below.on ?_ hb_wd | exact hb_we | refine Below.on ?_ hb_we | exact hb_wi | refine Below.on ?_ hb_wi | exact hb_wj | refine Below.on ?_ hb_wj | exact hb_wk | refine Below.on ?_ hb_wk | refine Below.alloc_ ?_ _ | refine Below.drew ?_ | refine below_drewN ?_ | refine Below.setCell ?_ (by first | (simp; done) | (simp; omega)) _))).mono ?_
              rintro e wn ⟨rfl, hb_wn⟩
              have hc_wn := (bcell hb_wn).1
              have hf_wn := (bcell hb_wn).2
              go_wp2
              go_ret
              exact ⟨by simp, (by repeat (first | exact Below.refl _ _ | exact hb_wa | refine Below.on ?_ hb_wa | exact hb_wb | refine Below.on ?_ hb_wb | exact hb_wc | refine Below.on ?_ hb_wc | exact hb_wd | refine Below.on ?_ hb_wd | exact hb_we | refine Below.on ?_ hb_we | exact hb_wi | refine Below.on ?_ hb_wi | exact hb_wj | refine Below.on ?_ hb_wj | exact hb_wk | refine Below.on ?_ hb_wk | exact hb_wn | refine Below.on ?_ hb_wn | refine Below.alloc_ ?_ _ | refine Below.drew ?_ | refine below_drewN ?_ | refine Below.setCell ?_ (by first | (simp; done) | (simp; omega)) _))⟩
      · replace vx : validB c xn xd = false := by simpa using vx
        rw [vx] at VX
        replace VX := Lib.hid VX
        clear vx
        go_wp2_with fail
        refine (VX.out _ (by repeat (first | exact Below.refl _ _ | exact hb_wb | refine Below.on ?_ hb_wb | exact hb_wc | refine Below.on ?_ hb_wc | refine Below.alloc_ ?_ _ | refine Below.drew ?_ | refine below_drewN ?_ | refine Below.setCell ?_ (by first | (simp; done) | (simp; omega)) _))).mono ?_
        rintro e wd ⟨rfl, hb_wd⟩
        have hc_wd := (bcell hb_wd).1
        have hf_wd := (bcell hb_wd).2
        have hz_wd_0 : w.heap.size < wd.heap.size := by have h_ := hb_wd.size; (try simp at h_); omega
        have hz_wd_1 : w.heap.size + 1 < wd.heap.size := by have h_ := hb_wd.size; (try simp at h_); omega
        have hz_wd_2 : w.heap.size + 1 + 1 < wd.heap.size := by have h_ := hb_wd.size; (try simp at h_); omega
        rcases hnx : nextB c bn bd with _ | ⟨x, y⟩
        · rw [hnx] at NX
          replace NX := Lib.hid NX
          clear hnx
          go_wp2_with fail
          refine (NX.out _ (by repeat (first | exact Below.refl _ _ | exact hb_wb | refine Below.on ?_ hb_wb | exact hb_wc | refine Below.on ?_ hb_wc | exact hb_wd | refine Below.on ?_ hb_wd | refine Below.alloc_ ?_ _ | refine Below.drew ?_ | refine below_drewN ?_ | refine Below.setCell ?_ (by first | (simp; done) | (simp; omega)) _))).mono ?_
          rintro e wi ⟨p, rfl, he, hb_wi⟩
          have hc_wi := (bcell hb_wi).1
          have hf_wi := (bcell hb_wi).2
          clear he
          have hz_wi_0 : w.heap.size < wi.heap.size := by have h_ := hb_wi.size; (try simp at h_); omega
          have hz_wi_1 : w.heap.size + 1 < wi.heap.size := by have h_ := hb_wi.size; (try simp at h_); omega
          have hz_wi_2 : w.heap.size + 1 + 1 < wi.heap.size := by have h_ := hb_wi.size; (try simp at h_); omega
          by_cases nd : 0 ≤ q ∧ q < 2 * c.f + 1
          · have nd' : decide (0 ≤ q ∧ q < 2 * c.f + 1) = true := decide_eq_true nd
            rw [nd'] at ND
            replace ND := Lib.hid ND
            have OW : ∀ w1, Below wa.heap.size wa w1 → Calls Try.prog 25 #[.pointer (some ⟨b, 0, none⟩), .agg #[.int .u64 bn, .int .i64 bd], .int .i64 q] w1 fun e w' => match ownB c bn bd q with | some (y, z) => GotB y z w1 e w' | none => NoB 0 183 w1 e w' := fun w1 h => own_ok b c bn bd q w1 (G.out w1 h) f1 f2 h1 m1 m2 vb.out nd'
            clear nd'
            go_wp2_with fail
            refine (ND.out _ (by repeat (first | exact Below.refl _ _ | exact hb_wb | refine Below.on ?_ hb_wb | exact hb_wc | refine Below.on ?_ hb_wc | exact hb_wd | refine Below.on ?_ hb_wd | exact hb_wi | refine Below.on ?_ hb_wi | refine Below.alloc_ ?_ _ | refine Below.drew ?_ | refine below_drewN ?_ | refine Below.setCell ?_ (by first | (simp; done) | (simp; omega)) _))).mono ?_
            rintro e wn ⟨rfl, hb_wn⟩
            have hc_wn := (bcell hb_wn).1
            have hf_wn := (bcell hb_wn).2
            have hz_wn_0 : w.heap.size < wn.heap.size := by have h_ := hb_wn.size; (try simp at h_); omega
            have hz_wn_1 : w.heap.size + 1 < wn.heap.size := by have h_ := hb_wn.size; (try simp at h_); omega
            have hz_wn_2 : w.heap.size + 1 + 1 < wn.heap.size := by have h_ := hb_wn.size; (try simp at h_); omega
            rcases hox : ownB c bn bd q with _ | ⟨ox, oy⟩
            · rw [hox] at OW
              replace OW := Lib.hid OW
              clear hox
              go_wp2_with fail
              refine (OW.out _ (by repeat (first | exact Below.refl _ _ | exact hb_wb | refine Below.on ?_ hb_wb | exact hb_wc | refine Below.on ?_ hb_wc | exact hb_wd | refine Below.on ?_ hb_wd | exact hb_wi | refine Below.on ?_ hb_wi | exact hb_wn | refine Below.on ?_ hb_wn | refine Below.alloc_ ?_ _ | refine Below.drew ?_ | refine below_drewN ?_ | refine Below.setCell ?_ (by first | (simp; done) | (simp; omega)) _))).mono ?_
              rintro e wo ⟨p, rfl, he, hb_wo⟩
              have hc_wo := (bcell hb_wo).1
              have hf_wo := (bcell hb_wo).2
              clear he
              have hz_wo_0 : w.heap.size < wo.heap.size := by have h_ := hb_wo.size; (try simp at h_); omega
              have hz_wo_1 : w.heap.size + 1 < wo.heap.size := by have h_ := hb_wo.size; (try simp at h_); omega
              have hz_wo_2 : w.heap.size + 1 + 1 < wo.heap.size := by have h_ := hb_wo.size; (try simp at h_); omega
              go_wp2
              go_ret
              exact ⟨by simp, (by repeat (first | exact Below.refl _ _ | exact hb_wa | refine Below.on ?_ hb_wa | exact hb_wb | refine Below.on ?_ hb_wb | exact hb_wc | refine Below.on ?_ hb_wc | exact hb_wd | refine Below.on ?_ hb_wd | exact hb_wi | refine Below.on ?_ hb_wi | exact hb_wn | refine Below.on ?_ hb_wn | exact hb_wo | refine Below.on ?_ hb_wo | refine Below.alloc_ ?_ _ | refine Below.drew ?_ | refine below_drewN ?_ | refine Below.setCell ?_ (by first | (simp; done) | (simp; omega)) _))⟩
            · rw [hox] at OW
              obtain ⟨e1, e2, e3, e4, e5⟩ := own_above vb.out nd hox
              subst e1
              replace OW := Lib.hid OW
              clear hox
              have VO := fun w1 h => valid_at b c ox oy w1 (G.out w1 h) f1 f2 e2
              rw [e3] at VO
              have LO := less_any bn bd ox oy
              rw [e4] at LO
              replace VO := Lib.hid VO
              replace LO := Lib.hid LO
              replace e5 := Lib.hid e5
              clear e3 e4
              go_wp2_with fail
              refine (OW.out _ (by repeat (first | exact Below.refl _ _ | exact hb_wb | refine Below.on ?_ hb_wb | exact hb_wc | refine Below.on ?_ hb_wc | exact hb_wd | refine Below.on ?_ hb_wd | exact hb_wi | refine Below.on ?_ hb_wi | exact hb_wn | refine Below.on ?_ hb_wn | refine Below.alloc_ ?_ _ | refine Below.drew ?_ | refine below_drewN ?_ | refine Below.setCell ?_ (by first | (simp; done) | (simp; omega)) _))).mono ?_
              rintro e wo ⟨rfl, hb_wo⟩
              have hc_wo := (bcell hb_wo).1
              have hf_wo := (bcell hb_wo).2
              have hz_wo_0 : w.heap.size < wo.heap.size := by have h_ := hb_wo.size; (try simp at h_); omega
              have hz_wo_1 : w.heap.size + 1 < wo.heap.size := by have h_ := hb_wo.size; (try simp at h_); omega
              have hz_wo_2 : w.heap.size + 1 + 1 < wo.heap.size := by have h_ := hb_wo.size; (try simp at h_); omega
              go_wp2_with fail
              refine (VO.out _ (by repeat (first | exact Below.refl _ _ | exact hb_wb | refine Below.on ?_ hb_wb | exact hb_wc | refine Below.on ?_ hb_wc | exact hb_wd | refine Below.on ?_ hb_wd | exact hb_wi | refine Below.on ?_ hb_wi | exact hb_wn | refine Below.on ?_ hb_wn | exact hb_wo | refine Below.on ?_ hb_wo | refine Below.alloc_ ?_ _ | refine Below.drew ?_ | refine below_drewN ?_ | refine Below.setCell ?_ (by first | (simp; done) | (simp; omega)) _))).mono ?_
              rintro e wp ⟨rfl, hb_wp⟩
              have hc_wp := (bcell hb_wp).1
              have hf_wp := (bcell hb_wp).2
              have hz_wp_0 : w.heap.size < wp.heap.size := by have h_ := hb_wp.size; (try simp at h_); omega
              have hz_wp_1 : w.heap.size + 1 < wp.heap.size := by have h_ := hb_wp.size; (try simp at h_); omega
              have hz_wp_2 : w.heap.size + 1 + 1 < wp.heap.size := by have h_ := hb_wp.size; (try simp at h_); omega
              have hz_o : wo.heap.size < wp.heap.size := by have h_ := hb_wp.size; (try simp at h_); omega
              go_wp2_with fail
              refine (LO.out _).mono ?_
              rintro e wq ⟨rfl, hb_wq⟩
              have hc_wq := (bcell hb_wq).1
              have hf_wq := (bcell hb_wq).2
              have hz_wq_0 : w.heap.size < wq.heap.size := by have h_ := hb_wq.size; (try simp at h_); omega
              have hz_wq_1 : w.heap.size + 1 < wq.heap.size := by have h_ := hb_wq.size; (try simp at h_); omega
              have hz_wq_2 : w.heap.size + 1 + 1 < wq.heap.size := by have h_ := hb_wq.size; (try simp at h_); omega
              have hz_p : wo.heap.size < wq.heap.size := by have h_ := hb_wq.size; (try simp at h_); omega
              go_wp2
              go_ret
              exact ⟨by simp, (by repeat (first | exact Below.refl _ _ | exact hb_wa | refine Below.on ?_ hb_wa | exact hb_wb | refine Below.on ?_ hb_wb | exact hb_wc | refine Below.on ?_ hb_wc | exact hb_wd | refine Below.on ?_ hb_wd | exact hb_wi | refine Below.on ?_ hb_wi | exact hb_wn | refine Below.on ?_ hb_wn | exact hb_wo | refine Below.on ?_ hb_wo | exact hb_wp | refine Below.on ?_ hb_wp | exact hb_wq | refine Below.on ?_ hb_wq | refine Below.alloc_ ?_ _ | refine Below.drew ?_ | refine below_drewN ?_ | refine Below.setCell ?_ (by first | (simp; done) | (simp; omega)) _))⟩
          · have nd : decide (0 ≤ q ∧ q < 2 * c.f + 1) = false := decide_eq_false nd
            rw [nd] at ND
            replace ND := Lib.hid ND
            clear nd
            go_wp2_with fail
            refine (ND.out _ (by repeat (first | exact Below.refl _ _ | exact hb_wb | refine Below.on ?_ hb_wb | exact hb_wc | refine Below.on ?_ hb_wc | exact hb_wd | refine Below.on ?_ hb_wd | exact hb_wi | refine Below.on ?_ hb_wi | refine Below.alloc_ ?_ _ | refine Below.drew ?_ | refine below_drewN ?_ | refine Below.setCell ?_ (by first | (simp; done) | (simp; omega)) _))).mono ?_
            rintro e wn ⟨rfl, hb_wn⟩
            have hc_wn := (bcell hb_wn).1
            have hf_wn := (bcell hb_wn).2
            go_wp2
            go_ret
            exact ⟨by simp, (by repeat (first | exact Below.refl _ _ | exact hb_wa | refine Below.on ?_ hb_wa | exact hb_wb | refine Below.on ?_ hb_wb | exact hb_wc | refine Below.on ?_ hb_wc | exact hb_wd | refine Below.on ?_ hb_wd | exact hb_wi | refine Below.on ?_ hb_wi | exact hb_wn | refine Below.on ?_ hb_wn | refine Below.alloc_ ?_ _ | refine Below.drew ?_ | refine below_drewN ?_ | refine Below.setCell ?_ (by first | (simp; done) | (simp; omega)) _))⟩
        · rw [hnx] at NX
          obtain ⟨v1, _, v3⟩ := next_some f1 f2 m1 vb.out hnx
          obtain ⟨v4, v5⟩ := next_above f1 m1 vb.out hnx
          have VN := fun w1 h => valid_at b c x y w1 (G.out w1 h) f1 f2 v3
          rw [v1] at VN
          have LN := less_any bn bd x y
          rw [v4] at LN
          replace NX := Lib.hid NX
          replace VN := Lib.hid VN
          replace LN := Lib.hid LN
          clear hnx v1 v4 v5
          go_wp2_with fail
          refine (NX.out _ (by repeat (first | exact Below.refl _ _ | exact hb_wb | refine Below.on ?_ hb_wb | exact hb_wc | refine Below.on ?_ hb_wc | exact hb_wd | refine Below.on ?_ hb_wd | refine Below.alloc_ ?_ _ | refine Below.drew ?_ | refine below_drewN ?_ | refine Below.setCell ?_ (by first | (simp; done) | (simp; omega)) _))).mono ?_
          rintro e wi ⟨rfl, hb_wi⟩
          have hc_wi := (bcell hb_wi).1
          have hf_wi := (bcell hb_wi).2
          have hz_wi_0 : w.heap.size < wi.heap.size := by have h_ := hb_wi.size; (try simp at h_); omega
          have hz_wi_1 : w.heap.size + 1 < wi.heap.size := by have h_ := hb_wi.size; (try simp at h_); omega
          have hz_wi_2 : w.heap.size + 1 + 1 < wi.heap.size := by have h_ := hb_wi.size; (try simp at h_); omega
          go_wp2_with fail
          refine (VN.out _ (by repeat (first | exact Below.refl _ _ | exact hb_wb | refine Below.on ?_ hb_wb | exact hb_wc | refine Below.on ?_ hb_wc | exact hb_wd | refine Below.on ?_ hb_wd | exact hb_wi | refine Below.on ?_ hb_wi | refine Below.alloc_ ?_ _ | refine Below.drew ?_ | refine below_drewN ?_ | refine Below.setCell ?_ (by first | (simp; done) | (simp; omega)) _))).mono ?_
          rintro e wj ⟨rfl, hb_wj⟩
          have hc_wj := (bcell hb_wj).1
          have hf_wj := (bcell hb_wj).2
          have hz_wj_0 : w.heap.size < wj.heap.size := by have h_ := hb_wj.size; (try simp at h_); omega
          have hz_wj_1 : w.heap.size + 1 < wj.heap.size := by have h_ := hb_wj.size; (try simp at h_); omega
          have hz_wj_2 : w.heap.size + 1 + 1 < wj.heap.size := by have h_ := hb_wj.size; (try simp at h_); omega
          have hz_i : wi.heap.size < wj.heap.size := by have h_ := hb_wj.size; (try simp at h_); omega
          go_wp2_with fail
          refine (LN.out _).mono ?_
          rintro e wk ⟨rfl, hb_wk⟩
          have hc_wk := (bcell hb_wk).1
          have hf_wk := (bcell hb_wk).2
          have hz_wk_0 : w.heap.size < wk.heap.size := by have h_ := hb_wk.size; (try simp at h_); omega
          have hz_wk_1 : w.heap.size + 1 < wk.heap.size := by have h_ := hb_wk.size; (try simp at h_); omega
          have hz_wk_2 : w.heap.size + 1 + 1 < wk.heap.size := by have h_ := hb_wk.size; (try simp at h_); omega
          have hz_j : wi.heap.size < wk.heap.size := by have h_ := hb_wk.size; (try simp at h_); omega
          by_cases nd : 0 ≤ q ∧ q < 2 * c.f + 1
          · have nd' : decide (0 ≤ q ∧ q < 2 * c.f + 1) = true := decide_eq_true nd
            rw [nd'] at ND
            replace ND := Lib.hid ND
            have OW : ∀ w1, Below wa.heap.size wa w1 → Calls Try.prog 25 #[.pointer (some ⟨b, 0, none⟩), .agg #[.int .u64 bn, .int .i64 bd], .int .i64 q] w1 fun e w' => match ownB c bn bd q with | some (y, z) => GotB y z w1 e w' | none => NoB 0 183 w1 e w' := fun w1 h => own_ok b c bn bd q w1 (G.out w1 h) f1 f2 h1 m1 m2 vb.out nd'
            clear nd'
            go_wp2_with fail
            refine (ND.out _ (by repeat (first | exact Below.refl _ _ | exact hb_wb | refine Below.on ?_ hb_wb | exact hb_wc | refine Below.on ?_ hb_wc | exact hb_wd | refine Below.on ?_ hb_wd | exact hb_wi | refine Below.on ?_ hb_wi | exact hb_wj | refine Below.on ?_ hb_wj | exact hb_wk | refine Below.on ?_ hb_wk | refine Below.alloc_ ?_ _ | refine Below.drew ?_ | refine below_drewN ?_ | refine Below.setCell ?_ (by first | (simp; done) | (simp; omega)) _))).mono ?_
            rintro e wn ⟨rfl, hb_wn⟩
            have hc_wn := (bcell hb_wn).1
            have hf_wn := (bcell hb_wn).2
            have hz_wn_0 : w.heap.size < wn.heap.size := by have h_ := hb_wn.size; (try simp at h_); omega
            have hz_wn_1 : w.heap.size + 1 < wn.heap.size := by have h_ := hb_wn.size; (try simp at h_); omega
            have hz_wn_2 : w.heap.size + 1 + 1 < wn.heap.size := by have h_ := hb_wn.size; (try simp at h_); omega
            rcases hox : ownB c bn bd q with _ | ⟨ox, oy⟩
            · rw [hox] at OW
              replace OW := Lib.hid OW
              clear hox
              go_wp2_with fail
              refine (OW.out _ (by repeat (first | exact Below.refl _ _ | exact hb_wb | refine Below.on ?_ hb_wb | exact hb_wc | refine Below.on ?_ hb_wc | exact hb_wd | refine Below.on ?_ hb_wd | exact hb_wi | refine Below.on ?_ hb_wi | exact hb_wj | refine Below.on ?_ hb_wj | exact hb_wk | refine Below.on ?_ hb_wk | exact hb_wn | refine Below.on ?_ hb_wn | refine Below.alloc_ ?_ _ | refine Below.drew ?_ | refine below_drewN ?_ | refine Below.setCell ?_ (by first | (simp; done) | (simp; omega)) _))).mono ?_
              rintro e wo ⟨p, rfl, he, hb_wo⟩
              have hc_wo := (bcell hb_wo).1
              have hf_wo := (bcell hb_wo).2
              clear he
              have hz_wo_0 : w.heap.size < wo.heap.size := by have h_ := hb_wo.size; (try simp at h_); omega
              have hz_wo_1 : w.heap.size + 1 < wo.heap.size := by have h_ := hb_wo.size; (try simp at h_); omega
              have hz_wo_2 : w.heap.size + 1 + 1 < wo.heap.size := by have h_ := hb_wo.size; (try simp at h_); omega
              go_wp2
              go_ret
              exact ⟨by simp, (by repeat (first | exact Below.refl _ _ | exact hb_wa | refine Below.on ?_ hb_wa | exact hb_wb | refine Below.on ?_ hb_wb | exact hb_wc | refine Below.on ?_ hb_wc | exact hb_wd | refine Below.on ?_ hb_wd | exact hb_wi | refine Below.on ?_ hb_wi | exact hb_wj | refine Below.on ?_ hb_wj | exact hb_wk | refine Below.on ?_ hb_wk | exact hb_wn | refine Below.on ?_ hb_wn | exact hb_wo | refine Below.on ?_ hb_wo | refine Below.alloc_ ?_ _ | refine Below.drew ?_ | refine below_drewN ?_ | refine Below.setCell ?_ (by first | (simp; done) | (simp; omega)) _))⟩
            · rw [hox] at OW
              obtain ⟨e1, e2, e3, e4, e5⟩ := own_above vb.out nd hox
              subst e1
              replace OW := Lib.hid OW
              clear hox
              have VO := fun w1 h => valid_at b c ox oy w1 (G.out w1 h) f1 f2 e2
              rw [e3] at VO
              have LO := less_any bn bd ox oy
              rw [e4] at LO
              replace VO := Lib.hid VO
              replace LO := Lib.hid LO
              replace e5 := Lib.hid e5
              clear e3 e4
              go_wp2_with fail
              refine (OW.out _ (by repeat (first | exact Below.refl _ _ | exact hb_wb | refine Below.on ?_ hb_wb | exact hb_wc | refine Below.on ?_ hb_wc | exact hb_wd | refine Below.on ?_ hb_wd | exact hb_wi | refine Below.on ?_ hb_wi | exact hb_wj | refine Below.on ?_ hb_wj | exact hb_wk | refine Below.on ?_ hb_wk | exact hb_wn | refine Below.on ?_ hb_wn | refine Below.alloc_ ?_ _ | refine Below.drew ?_ | refine below_drewN ?_ | refine Below.setCell ?_ (by first | (simp; done) | (simp; omega)) _))).mono ?_
              rintro e wo ⟨rfl, hb_wo⟩
              have hc_wo := (bcell hb_wo).1
              have hf_wo := (bcell hb_wo).2
              have hz_wo_0 : w.heap.size < wo.heap.size := by have h_ := hb_wo.size; (try simp at h_); omega
              have hz_wo_1 : w.heap.size + 1 < wo.heap.size := by have h_ := hb_wo.size; (try simp at h_); omega
              have hz_wo_2 : w.heap.size + 1 + 1 < wo.heap.size := by have h_ := hb_wo.size; (try simp at h_); omega
              go_wp2_with fail
              refine (VO.out _ (by repeat (first | exact Below.refl _ _ | exact hb_wb | refine Below.on ?_ hb_wb | exact hb_wc | refine Below.on ?_ hb_wc | exact hb_wd | refine Below.on ?_ hb_wd | exact hb_wi | refine Below.on ?_ hb_wi | exact hb_wj | refine Below.on ?_ hb_wj | exact hb_wk | refine Below.on ?_ hb_wk | exact hb_wn | refine Below.on ?_ hb_wn | exact hb_wo | refine Below.on ?_ hb_wo | refine Below.alloc_ ?_ _ | refine Below.drew ?_ | refine below_drewN ?_ | refine Below.setCell ?_ (by first | (simp; done) | (simp; omega)) _))).mono ?_
              rintro e wp ⟨rfl, hb_wp⟩
              have hc_wp := (bcell hb_wp).1
              have hf_wp := (bcell hb_wp).2
              have hz_wp_0 : w.heap.size < wp.heap.size := by have h_ := hb_wp.size; (try simp at h_); omega
              have hz_wp_1 : w.heap.size + 1 < wp.heap.size := by have h_ := hb_wp.size; (try simp at h_); omega
              have hz_wp_2 : w.heap.size + 1 + 1 < wp.heap.size := by have h_ := hb_wp.size; (try simp at h_); omega
              have hz_o : wo.heap.size < wp.heap.size := by have h_ := hb_wp.size; (try simp at h_); omega
              go_wp2_with fail
              refine (LO.out _).mono ?_
              rintro e wq ⟨rfl, hb_wq⟩
              have hc_wq := (bcell hb_wq).1
              have hf_wq := (bcell hb_wq).2
              have hz_wq_0 : w.heap.size < wq.heap.size := by have h_ := hb_wq.size; (try simp at h_); omega
              have hz_wq_1 : w.heap.size + 1 < wq.heap.size := by have h_ := hb_wq.size; (try simp at h_); omega
              have hz_wq_2 : w.heap.size + 1 + 1 < wq.heap.size := by have h_ := hb_wq.size; (try simp at h_); omega
              have hz_p : wo.heap.size < wq.heap.size := by have h_ := hb_wq.size; (try simp at h_); omega
              go_wp2
              go_ret
              exact ⟨by simp, (by repeat (first | exact Below.refl _ _ | exact hb_wa | refine Below.on ?_ hb_wa | exact hb_wb | refine Below.on ?_ hb_wb | exact hb_wc | refine Below.on ?_ hb_wc | exact hb_wd | refine Below.on ?_ hb_wd | exact hb_wi | refine Below.on ?_ hb_wi | exact hb_wj | refine Below.on ?_ hb_wj | exact hb_wk | refine Below.on ?_ hb_wk | exact hb_wn | refine Below.on ?_ hb_wn | exact hb_wo | refine Below.on ?_ hb_wo | exact hb_wp | refine Below.on ?_ hb_wp | exact hb_wq | refine Below.on ?_ hb_wq | refine Below.alloc_ ?_ _ | refine Below.drew ?_ | refine below_drewN ?_ | refine Below.setCell ?_ (by first | (simp; done) | (simp; omega)) _))⟩
          · have nd : decide (0 ≤ q ∧ q < 2 * c.f + 1) = false := decide_eq_false nd
            rw [nd] at ND
            replace ND := Lib.hid ND
            clear nd
            go_wp2_with fail
            refine (ND.out _ (by repeat (first | exact Below.refl _ _ | exact hb_wb | refine Below.on ?_ hb_wb | exact hb_wc | refine Below.on ?_ hb_wc | exact hb_wd | refine Below.on ?_ hb_wd | exact hb_wi | refine Below.on ?_ hb_wi | exact hb_wj | refine Below.on ?_ hb_wj | exact hb_wk | refine Below.on ?_ hb_wk | refine Below.alloc_ ?_ _ | refine Below.drew ?_ | refine below_drewN ?_ | refine Below.setCell ?_ (by first | (simp; done) | (simp; omega)) _))).mono ?_
            rintro e wn ⟨rfl, hb_wn⟩
            have hc_wn := (bcell hb_wn).1
            have hf_wn := (bcell hb_wn).2
            go_wp2
            go_ret
            exact ⟨by simp, (by repeat (first | exact Below.refl _ _ | exact hb_wa | refine Below.on ?_ hb_wa | exact hb_wb | refine Below.on ?_ hb_wb | exact hb_wc | refine Below.on ?_ hb_wc | exact hb_wd | refine Below.on ?_ hb_wd | exact hb_wi | refine Below.on ?_ hb_wi | exact hb_wj | refine Below.on ?_ hb_wj | exact hb_wk | refine Below.on ?_ hb_wk | exact hb_wn | refine Below.on ?_ hb_wn | refine Below.alloc_ ?_ _ | refine Below.drew ?_ | refine below_drewN ?_ | refine Below.setCell ?_ (by first | (simp; done) | (simp; omega)) _))⟩
    · replace vb : validB c bn bd = false := by simpa using vb
      rw [vb] at VB
      replace VB := Lib.hid VB
      clear vb
      go_wp2_with fail
      refine (VB.out _ (by repeat (first | exact Below.refl _ _ | exact hb_wb | refine Below.on ?_ hb_wb | refine Below.alloc_ ?_ _ | refine Below.drew ?_ | refine below_drewN ?_ | refine Below.setCell ?_ (by first | (simp; done) | (simp; omega)) _))).mono ?_
      rintro e wc ⟨rfl, hb_wc⟩
      have hc_wc := (bcell hb_wc).1
      have hf_wc := (bcell hb_wc).2
      have hz_wc_0 : w.heap.size < wc.heap.size := by have h_ := hb_wc.size; (try simp at h_); omega
      have hz_wc_1 : w.heap.size + 1 < wc.heap.size := by have h_ := hb_wc.size; (try simp at h_); omega
      have hz_wc_2 : w.heap.size + 1 + 1 < wc.heap.size := by have h_ := hb_wc.size; (try simp at h_); omega
      go_wp2
      go_ret
      exact ⟨rfl, (by repeat (first | exact Below.refl _ _ | exact hb_wa | refine Below.on ?_ hb_wa | exact hb_wb | refine Below.on ?_ hb_wb | exact hb_wc | refine Below.on ?_ hb_wc | refine Below.alloc_ ?_ _ | refine Below.drew ?_ | refine below_drewN ?_ | refine Below.setCell ?_ (by first | (simp; done) | (simp; omega)) _))⟩
  · have hc_wa := (bcell hb_wa).1
    have hf_wa := (bcell hb_wa).2
    go_wp2
    go_ret
    exact ⟨rfl, (by repeat (first | exact Below.refl _ _ | exact hb_wa | refine Below.on ?_ hb_wa | refine Below.alloc_ ?_ _ | refine Below.drew ?_ | refine below_drewN ?_ | refine Below.setCell ?_ (by first | (simp; done) | (simp; omega)) _))⟩
theorem between_law (a0 a1 a2 a3 a4 a5 a6 a7 a8 a9 bn bd q xn xd : Int) (w : World) (h0 : (Lit.int .i64 a0).wf = true) (h1 : (Lit.int .i64 a1).wf = true) (h2 : (Lit.int .u64 a2).wf = true) (h3 : (Lit.int .u64 a3).wf = true) (h4 : (Lit.int .u64 a4).wf = true) (h5 : (Lit.int .u64 a5).wf = true) (h6 : (Lit.int .u64 a6).wf = true) (h7 : (Lit.int .u64 a7).wf = true) (h8 : (Lit.int .u64 a8).wf = true) (h9 : (Lit.int .u64 a9).wf = true) (h10 : (Lit.int .u64 bn).wf = true) (h11 : (Lit.int .i64 bd).wf = true) (h12 : (Lit.int .i64 q).wf = true) (h13 : (Lit.int .u64 xn).wf = true) (h14 : (Lit.int .i64 xd).wf = true) :
    Calls Try.prog 7 #[.agg #[.int .i64 a0, .int .i64 a1, .int .u64 a2, .int .u64 a3, .int .u64 a4, .int .u64 a5, .int .u64 a6, .int .u64 a7, .int .u64 a8, .int .u64 a9], .agg #[.int .u64 bn, .int .i64 bd], .int .i64 q, .agg #[.int .u64 xn, .int .i64 xd]] w fun e w' => e = .returned (.bool true) ∧ Below w.heap.size w w' :=
  between_walk ⟨a0, a1, a2, a3, a4, a5, a6, a7, a8, a9⟩ bn bd q xn xd w ⟨(wf_i64 h0).1, (wf_i64 h0).2, (wf_i64 h1).1, (wf_i64 h1).2, (wf_u64 h2).1, (wf_u64 h3).1, (wf_u64 h4).1, (wf_u64 h5).1, (wf_u64 h6).1, (wf_u64 h7).1, (wf_u64 h8).1, (wf_u64 h9).1⟩ (wf_u64 h10).1 (wf_u64 h13).1
end Go.Proofs.Ytehmbcpgendkjaa
