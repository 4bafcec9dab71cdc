import Derived.Test.YtehmbcpgendkjaaStepsAll
namespace Go.Proofs.Ytehmbcpgendkjaa
open Go.RowKit
set_option linter.unusedSimpArgs false
set_option linter.unusedVariables false
set_option maxRecDepth 100000 in
set_option maxHeartbeats 3200000 in
theorem steps_walk (c : Cfg) (bn bd q n : Int) (w : World) (ok : c.Ok) (h1 : 0 ≤ bn) (h2 : 0 ≤ n) :
    Calls Try.prog 9 #[.agg #[.int .i64 c.f, .int .i64 c.mb, .int .u64 c.dl, .int .u64 c.wd, .int .u64 c.ev, .int .u64 c.bt, .int .u64 c.ep, .int .u64 c.em, .int .u64 c.mn, .int .u64 c.ms], .agg #[.int .u64 bn, .int .i64 bd], .int .i64 q, .int .u64 n] w fun e w' => e = .returned (.bool true) ∧ Below w.heap.size w w' := by
  go_enter Try.func9, Try.ntmps9
  go_wp2_with fail
  refine (groups_any c _ ok).mono ?_
  rintro e wa (⟨hb, b, d, rfl, hlb, hg, hr, hb_wa⟩ | ⟨hb, rfl, hb_wa⟩)
  · obtain ⟨⟨f1, f2⟩, _, _, _, _, _, _, _, ⟨m0, m1⟩, _⟩ := Cfg.valid hb
    replace hb := Lib.hid hb
    have HG := Lib.hid hg
    have HR := Lib.hid hr
    have bl := hg.lt
    have dl := hr.lt
    clear hg hr
    obtain ⟨x1, y1, T1, N1⟩ : ∃ x y T, nextR c bn bd = (x, y, T) := ⟨_, _, _, rfl⟩
    obtain ⟨x2, y2, T2, N2⟩ : ∃ x y T, ownR c bn bd q = (x, y, T) := ⟨_, _, _, rfl⟩
    obtain ⟨x3, T3, N3⟩ : ∃ x T, rankR c bn bd = (x, T) := ⟨_, _, rfl⟩
    obtain ⟨x4, y4, T4, N4⟩ : ∃ x y T, rankedR c n = (x, y, T) := ⟨_, _, _, rfl⟩
    replace N1 := Lib.hid N1
    replace N2 := Lib.hid N2
    replace N3 := Lib.hid N3
    replace N4 := Lib.hid N4
    have hc_wa := (bcell hb_wa).1
    have hf_wa := (bcell hb_wa).2
    have hz_wa_0 : w.heap.size < wa.heap.size := by have h_ := hb_wa.size; (try simp at h_); omega
    have hz_wa_1 : w.heap.size + 1 < wa.heap.size := by have h_ := hb_wa.size; (try simp at h_); omega
    go_wp2_with fail
    have NM : NotMade (wa.alloc (.cells #[.int .i64 0, .int .i64 0, .int .u64 0, .int .u64 0, .int .u64 0, .int .u64 0, .int .u64 0, .int .u64 0, .int .u64 0, .int .u64 0, .int .i64 0] 56)) (some ⟨wa.heap.size, 0, none⟩) := .inr ⟨_, rfl, by simp, by simp⟩
    replace NM := Lib.hid NM
    refine (next_not _ _ _ _ NM.out).mono ?_
    rintro e wb ⟨p1, rfl, he1, hb_wb⟩
    have hc_wb := (bcell hb_wb).1
    have hf_wb := (bcell hb_wb).2
    replace he1 := Lib.hid he1
    have hz_wb_0 : w.heap.size < wb.heap.size := by have h_ := hb_wb.size; (try simp at h_); omega
    have hz_wb_1 : w.heap.size + 1 < wb.heap.size := by have h_ := hb_wb.size; (try simp at h_); omega
    go_wp2_with fail
    refine (own_no _ _ _ _ 3 _ (FormNo.zero _ _ _ _ (NM.out.below (by repeat (first | with_reducible refine Below.drew ?_ | with_reducible refine below_drewN ?_ | with_reducible refine Below.alloc_ ?_ _ | with_reducible refine Below.setCell ?_ (by first | (simp; done) | (simp; omega)) _ | with_reducible exact Below.refl _ _ | with_reducible exact hb_wb | with_reducible refine Below.on ?_ hb_wb ))))).mono ?_
    rintro e wc ⟨p2, rfl, he2, hb_wc⟩
    have hc_wc := (bcell hb_wc).1
    have hf_wc := (bcell hb_wc).2
    replace he2 := Lib.hid he2
    have hz_wc_0 : w.heap.size < wc.heap.size := by have h_ := hb_wc.size; (try simp at h_); omega
    have hz_wc_1 : w.heap.size + 1 < wc.heap.size := by have h_ := hb_wc.size; (try simp at h_); omega
    go_wp2_with fail
    refine (rank_no _ _ _ 3 _ (FormNo.zero _ _ _ _ (NM.out.below (by repeat (first | with_reducible refine Below.drew ?_ | with_reducible refine below_drewN ?_ | with_reducible refine Below.alloc_ ?_ _ | with_reducible refine Below.setCell ?_ (by first | (simp; done) | (simp; omega)) _ | with_reducible exact Below.refl _ _ | with_reducible exact hb_wb | with_reducible refine Below.on ?_ hb_wb | with_reducible exact hb_wc | with_reducible refine Below.on ?_ hb_wc ))))).mono ?_
    rintro e wd ⟨p3, rfl, he3, hb_wd⟩
    have hc_wd := (bcell hb_wd).1
    have hf_wd := (bcell hb_wd).2
    replace he3 := Lib.hid he3
    have hz_wd_0 : w.heap.size < wd.heap.size := by have h_ := hb_wd.size; (try simp at h_); omega
    have hz_wd_1 : w.heap.size + 1 < wd.heap.size := by have h_ := hb_wd.size; (try simp at h_); omega
    go_wp2_with fail
    refine (ranked_not _ _ _ (NM.out.below (by repeat (first | with_reducible refine Below.drew ?_ | with_reducible refine below_drewN ?_ | with_reducible refine Below.alloc_ ?_ _ | with_reducible refine Below.setCell ?_ (by first | (simp; done) | (simp; omega)) _ | with_reducible exact Below.refl _ _ | with_reducible exact hb_wb | with_reducible refine Below.on ?_ hb_wb | with_reducible exact hb_wc | with_reducible refine Below.on ?_ hb_wc | with_reducible exact hb_wd | with_reducible refine Below.on ?_ hb_wd )))).mono ?_
    rintro e we ⟨p4, rfl, he4, hb_we⟩
    have hc_we := (bcell hb_we).1
    have hf_we := (bcell hb_we).2
    replace he4 := Lib.hid he4
    have hz_we_0 : w.heap.size < we.heap.size := by have h_ := hb_we.size; (try simp at h_); omega
    have hz_we_1 : w.heap.size + 1 < we.heap.size := by have h_ := hb_we.size; (try simp at h_); omega
    go_wp2_with fail
    refine (zero_err _ _ (he1.out.below (by repeat (first | with_reducible refine Below.drew ?_ | with_reducible refine below_drewN ?_ | with_reducible refine Below.alloc_ ?_ _ | with_reducible refine Below.setCell ?_ (by first | (simp; done) | (simp; omega)) _ | with_reducible exact Below.refl _ _ | with_reducible exact hb_wc | with_reducible refine Below.on ?_ hb_wc | with_reducible exact hb_wd | with_reducible refine Below.on ?_ hb_wd | with_reducible exact hb_we | with_reducible refine Below.on ?_ hb_we ))).is).mono ?_
    rintro e wf ⟨rfl, hb_wf⟩
    have hc_wf := (bcell hb_wf).1
    have hf_wf := (bcell hb_wf).2
    have hz_wf_0 : w.heap.size < wf.heap.size := by have h_ := hb_wf.size; (try simp at h_); omega
    have hz_wf_1 : w.heap.size + 1 < wf.heap.size := by have h_ := hb_wf.size; (try simp at h_); omega
    go_wp2_with fail
    refine (zero_err _ _ (he2.out.below (by repeat (first | with_reducible refine Below.drew ?_ | with_reducible refine below_drewN ?_ | with_reducible refine Below.alloc_ ?_ _ | with_reducible refine Below.setCell ?_ (by first | (simp; done) | (simp; omega)) _ | with_reducible exact Below.refl _ _ | with_reducible exact hb_wd | with_reducible refine Below.on ?_ hb_wd | with_reducible exact hb_we | with_reducible refine Below.on ?_ hb_we | with_reducible exact hb_wf | with_reducible refine Below.on ?_ hb_wf ))).is).mono ?_
    rintro e wg ⟨rfl, hb_wg⟩
    have hc_wg := (bcell hb_wg).1
    have hf_wg := (bcell hb_wg).2
    have hz_wg_0 : w.heap.size < wg.heap.size := by have h_ := hb_wg.size; (try simp at h_); omega
    have hz_wg_1 : w.heap.size + 1 < wg.heap.size := by have h_ := hb_wg.size; (try simp at h_); omega
    go_wp2_with fail
    refine (zero_err _ _ (he3.out.below (by repeat (first | with_reducible refine Below.drew ?_ | with_reducible refine below_drewN ?_ | with_reducible refine Below.alloc_ ?_ _ | with_reducible refine Below.setCell ?_ (by first | (simp; done) | (simp; omega)) _ | with_reducible exact Below.refl _ _ | with_reducible exact hb_we | with_reducible refine Below.on ?_ hb_we | with_reducible exact hb_wf | with_reducible refine Below.on ?_ hb_wf | with_reducible exact hb_wg | with_reducible refine Below.on ?_ hb_wg ))).is).mono ?_
    rintro e wh ⟨rfl, hb_wh⟩
    have hc_wh := (bcell hb_wh).1
    have hf_wh := (bcell hb_wh).2
    have hz_wh_0 : w.heap.size < wh.heap.size := by have h_ := hb_wh.size; (try simp at h_); omega
    have hz_wh_1 : w.heap.size + 1 < wh.heap.size := by have h_ := hb_wh.size; (try simp at h_); omega
    go_wp2_with fail
    refine (zero_err _ _ (he4.out.below (by repeat (first | with_reducible refine Below.drew ?_ | with_reducible refine below_drewN ?_ | with_reducible refine Below.alloc_ ?_ _ | with_reducible refine Below.setCell ?_ (by first | (simp; done) | (simp; omega)) _ | with_reducible exact Below.refl _ _ | with_reducible exact hb_wf | with_reducible refine Below.on ?_ hb_wf | with_reducible exact hb_wg | with_reducible refine Below.on ?_ hb_wg | with_reducible exact hb_wh | with_reducible refine Below.on ?_ hb_wh ))).is).mono ?_
    rintro e wi ⟨rfl, hb_wi⟩
    have hc_wi := (bcell hb_wi).1
    have hf_wi := (bcell hb_wi).2
    have hz_wi_0 : w.heap.size < wi.heap.size := by have h_ := hb_wi.size; (try simp at h_); omega
    have hz_wi_1 : w.heap.size + 1 < wi.heap.size := by have h_ := hb_wi.size; (try simp at h_); omega
    go_wp2_with fail
    refine (next_all _ _ (HG.out.below HG.out.lt (by repeat (first | with_reducible refine Below.drew ?_ | with_reducible refine below_drewN ?_ | with_reducible refine Below.alloc_ ?_ _ | with_reducible refine Below.setCell ?_ (by first | (simp; done) | (simp; omega)) _ | with_reducible exact Below.refl _ _ | with_reducible exact hb_wb | with_reducible refine Below.on ?_ hb_wb | with_reducible exact hb_wc | with_reducible refine Below.on ?_ hb_wc | with_reducible exact hb_wd | with_reducible refine Below.on ?_ hb_wd | with_reducible exact hb_we | with_reducible refine Below.on ?_ hb_we | with_reducible exact hb_wf | with_reducible refine Below.on ?_ hb_wf | with_reducible exact hb_wg | with_reducible refine Below.on ?_ hb_wg | with_reducible exact hb_wh | with_reducible refine Below.on ?_ hb_wh | with_reducible exact hb_wi | with_reducible refine Below.on ?_ hb_wi ))) f1 f2 h1 m1 N1.out).mono ?_
    rintro e wj ⟨v1, rfl, ha1, hb_wj⟩
    have hc_wj := (bcell hb_wj).1
    have hf_wj := (bcell hb_wj).2
    replace ha1 := Lib.hid ha1
    have hz_wj_0 : w.heap.size < wj.heap.size := by have h_ := hb_wj.size; (try simp at h_); omega
    have hz_wj_1 : w.heap.size + 1 < wj.heap.size := by have h_ := hb_wj.size; (try simp at h_); omega
    go_wp2_with fail
    refine (own_all _ _ _ (HG.out.below HG.out.lt (by repeat (first | with_reducible refine Below.drew ?_ | with_reducible refine below_drewN ?_ | with_reducible refine Below.alloc_ ?_ _ | with_reducible refine Below.setCell ?_ (by first | (simp; done) | (simp; omega)) _ | with_reducible exact Below.refl _ _ | with_reducible exact hb_wb | with_reducible refine Below.on ?_ hb_wb | with_reducible exact hb_wc | with_reducible refine Below.on ?_ hb_wc | with_reducible exact hb_wd | with_reducible refine Below.on ?_ hb_wd | with_reducible exact hb_we | with_reducible refine Below.on ?_ hb_we | with_reducible exact hb_wf | with_reducible refine Below.on ?_ hb_wf | with_reducible exact hb_wg | with_reducible refine Below.on ?_ hb_wg | with_reducible exact hb_wh | with_reducible refine Below.on ?_ hb_wh | with_reducible exact hb_wi | with_reducible refine Below.on ?_ hb_wi | with_reducible exact hb_wj | with_reducible refine Below.on ?_ hb_wj ))) f1 f2 h1 m0 m1 N2.out).mono ?_
    rintro e wk ⟨v2, rfl, ha2, hb_wk⟩
    have hc_wk := (bcell hb_wk).1
    have hf_wk := (bcell hb_wk).2
    replace ha2 := Lib.hid ha2
    have hz_wk_0 : w.heap.size < wk.heap.size := by have h_ := hb_wk.size; (try simp at h_); omega
    have hz_wk_1 : w.heap.size + 1 < wk.heap.size := by have h_ := hb_wk.size; (try simp at h_); omega
    have hz_wk_0 : wj.heap.size < wk.heap.size := by have h_ := hb_wk.size; (try simp at h_); omega
    go_wp2_with fail
    refine (rank_all _ _ (HG.out.below HG.out.lt (by repeat (first | with_reducible refine Below.drew ?_ | with_reducible refine below_drewN ?_ | with_reducible refine Below.alloc_ ?_ _ | with_reducible refine Below.setCell ?_ (by first | (simp; done) | (simp; omega)) _ | with_reducible exact Below.refl _ _ | with_reducible exact hb_wb | with_reducible refine Below.on ?_ hb_wb | with_reducible exact hb_wc | with_reducible refine Below.on ?_ hb_wc | with_reducible exact hb_wd | with_reducible refine Below.on ?_ hb_wd | with_reducible exact hb_we | with_reducible refine Below.on ?_ hb_we | with_reducible exact hb_wf | with_reducible refine Below.on ?_ hb_wf | with_reducible exact hb_wg | with_reducible refine Below.on ?_ hb_wg | with_reducible exact hb_wh | with_reducible refine Below.on ?_ hb_wh | with_reducible exact hb_wi | with_reducible refine Below.on ?_ hb_wi | with_reducible exact hb_wj | with_reducible refine Below.on ?_ hb_wj | with_reducible exact hb_wk | with_reducible refine Below.on ?_ hb_wk ))) f1 f2 h1 m1 N3.out).mono ?_
    rintro e wl ⟨v3, rfl, ha3, hb_wl⟩
    have hc_wl := (bcell hb_wl).1
    have hf_wl := (bcell hb_wl).2
    replace ha3 := Lib.hid ha3
    have hz_wl_0 : w.heap.size < wl.heap.size := by have h_ := hb_wl.size; (try simp at h_); omega
    have hz_wl_1 : w.heap.size + 1 < wl.heap.size := by have h_ := hb_wl.size; (try simp at h_); omega
    have hz_wl_0 : wj.heap.size < wl.heap.size := by have h_ := hb_wl.size; (try simp at h_); omega
    have hz_wl_0 : wk.heap.size < wl.heap.size := by have h_ := hb_wl.size; (try simp at h_); omega
    go_wp2_with fail
    refine (ranked_all _ (HG.out.below HG.out.lt (by repeat (first | with_reducible refine Below.drew ?_ | with_reducible refine below_drewN ?_ | with_reducible refine Below.alloc_ ?_ _ | with_reducible refine Below.setCell ?_ (by first | (simp; done) | (simp; omega)) _ | with_reducible exact Below.refl _ _ | with_reducible exact hb_wb | with_reducible refine Below.on ?_ hb_wb | with_reducible exact hb_wc | with_reducible refine Below.on ?_ hb_wc | with_reducible exact hb_wd | with_reducible refine Below.on ?_ hb_wd | with_reducible exact hb_we | with_reducible refine Below.on ?_ hb_we | with_reducible exact hb_wf | with_reducible refine Below.on ?_ hb_wf | with_reducible exact hb_wg | with_reducible refine Below.on ?_ hb_wg | with_reducible exact hb_wh | with_reducible refine Below.on ?_ hb_wh | with_reducible exact hb_wi | with_reducible refine Below.on ?_ hb_wi | with_reducible exact hb_wj | with_reducible refine Below.on ?_ hb_wj | with_reducible exact hb_wk | with_reducible refine Below.on ?_ hb_wk | with_reducible exact hb_wl | with_reducible refine Below.on ?_ hb_wl ))) f1 f2 h2 m0 m1 N4.out).mono ?_
    rintro e wm ⟨v4, rfl, ha4, hb_wm⟩
    have hc_wm := (bcell hb_wm).1
    have hf_wm := (bcell hb_wm).2
    replace ha4 := Lib.hid ha4
    have hz_wm_0 : w.heap.size < wm.heap.size := by have h_ := hb_wm.size; (try simp at h_); omega
    have hz_wm_1 : w.heap.size + 1 < wm.heap.size := by have h_ := hb_wm.size; (try simp at h_); omega
    have hz_wm_0 : wj.heap.size < wm.heap.size := by have h_ := hb_wm.size; (try simp at h_); omega
    have hz_wm_0 : wk.heap.size < wm.heap.size := by have h_ := hb_wm.size; (try simp at h_); omega
    go_wp2_with fail
    refine (rnext_all _ _ (HR.out.below HR.out.lt (by repeat (first | with_reducible refine Below.drew ?_ | with_reducible refine below_drewN ?_ | with_reducible refine Below.alloc_ ?_ _ | with_reducible refine Below.setCell ?_ (by first | (simp; done) | (simp; omega)) _ | with_reducible exact Below.refl _ _ | with_reducible exact hb_wb | with_reducible refine Below.on ?_ hb_wb | with_reducible exact hb_wc | with_reducible refine Below.on ?_ hb_wc | with_reducible exact hb_wd | with_reducible refine Below.on ?_ hb_wd | with_reducible exact hb_we | with_reducible refine Below.on ?_ hb_we | with_reducible exact hb_wf | with_reducible refine Below.on ?_ hb_wf | with_reducible exact hb_wg | with_reducible refine Below.on ?_ hb_wg | with_reducible exact hb_wh | with_reducible refine Below.on ?_ hb_wh | with_reducible exact hb_wi | with_reducible refine Below.on ?_ hb_wi | with_reducible exact hb_wj | with_reducible refine Below.on ?_ hb_wj | with_reducible exact hb_wk | with_reducible refine Below.on ?_ hb_wk | with_reducible exact hb_wl | with_reducible refine Below.on ?_ hb_wl | with_reducible exact hb_wm | with_reducible refine Below.on ?_ hb_wm ))) f1 f2 h1 m0 m1 N1.out).mono ?_
    rintro e wn ⟨p1, l1, c1, rfl, hr1, hb_wn⟩
    have hc_wn := (bcell hb_wn).1
    have hf_wn := (bcell hb_wn).2
    replace hr1 := Lib.hid hr1
    have hz_wn_0 : w.heap.size < wn.heap.size := by have h_ := hb_wn.size; (try simp at h_); omega
    have hz_wn_1 : w.heap.size + 1 < wn.heap.size := by have h_ := hb_wn.size; (try simp at h_); omega
    have hz_wn_0 : wj.heap.size < wn.heap.size := by have h_ := hb_wn.size; (try simp at h_); omega
    have hy_wn_wj : wj.heap.size < wn.heap.size + 1 + 1 := by omega
    have hz_wn_0 : wk.heap.size < wn.heap.size := by have h_ := hb_wn.size; (try simp at h_); omega
    have hy_wn_wk : wk.heap.size < wn.heap.size + 1 + 1 := by omega
    have hz_wn_0 : wm.heap.size < wn.heap.size := by have h_ := hb_wn.size; (try simp at h_); omega
    have hy_wn_wm : wm.heap.size < wn.heap.size + 1 + 1 := by omega
    go_wp2_with fail
    refine (rown_all _ _ _ (HR.out.below HR.out.lt (by repeat (first | with_reducible refine Below.drew ?_ | with_reducible refine below_drewN ?_ | with_reducible refine Below.alloc_ ?_ _ | with_reducible refine Below.setCell ?_ (by first | (simp; done) | (simp; omega)) _ | with_reducible exact Below.refl _ _ | with_reducible exact hb_wb | with_reducible refine Below.on ?_ hb_wb | with_reducible exact hb_wc | with_reducible refine Below.on ?_ hb_wc | with_reducible exact hb_wd | with_reducible refine Below.on ?_ hb_wd | with_reducible exact hb_we | with_reducible refine Below.on ?_ hb_we | with_reducible exact hb_wf | with_reducible refine Below.on ?_ hb_wf | with_reducible exact hb_wg | with_reducible refine Below.on ?_ hb_wg | with_reducible exact hb_wh | with_reducible refine Below.on ?_ hb_wh | with_reducible exact hb_wi | with_reducible refine Below.on ?_ hb_wi | with_reducible exact hb_wj | with_reducible refine Below.on ?_ hb_wj | with_reducible exact hb_wk | with_reducible refine Below.on ?_ hb_wk | with_reducible exact hb_wl | with_reducible refine Below.on ?_ hb_wl | with_reducible exact hb_wm | with_reducible refine Below.on ?_ hb_wm | with_reducible exact hb_wn | with_reducible refine Below.on ?_ hb_wn ))) f1 f2 h1 m0 m1 N2.out).mono ?_
    rintro e wo ⟨p2, l2, c2, rfl, hr2, hb_wo⟩
    have hc_wo := (bcell hb_wo).1
    have hf_wo := (bcell hb_wo).2
    replace hr2 := Lib.hid hr2
    have hz_wo_0 : w.heap.size < wo.heap.size := by have h_ := hb_wo.size; (try simp at h_); omega
    have hz_wo_1 : w.heap.size + 1 < wo.heap.size := by have h_ := hb_wo.size; (try simp at h_); omega
    have hz_wo_0 : wj.heap.size < wo.heap.size := by have h_ := hb_wo.size; (try simp at h_); omega
    have hy_wo_wj : wj.heap.size < wo.heap.size + 1 + 1 := by omega
    have hz_wo_0 : wk.heap.size < wo.heap.size := by have h_ := hb_wo.size; (try simp at h_); omega
    have hy_wo_wk : wk.heap.size < wo.heap.size + 1 + 1 := by omega
    have hz_wo_0 : wm.heap.size < wo.heap.size := by have h_ := hb_wo.size; (try simp at h_); omega
    have hy_wo_wm : wm.heap.size < wo.heap.size + 1 + 1 := by omega
    have hz_wo_0 : wn.heap.size < wo.heap.size := by have h_ := hb_wo.size; (try simp at h_); omega
    have hz_wo_1 : wn.heap.size + 1 < wo.heap.size := by have h_ := hb_wo.size; (try simp at h_); omega
    have hy_wo_wn : wn.heap.size < wo.heap.size + 1 + 1 := by omega
    go_wp2_with fail
    refine (rrank_all _ _ (HR.out.below HR.out.lt (by repeat (first | with_reducible refine Below.drew ?_ | with_reducible refine below_drewN ?_ | with_reducible refine Below.alloc_ ?_ _ | with_reducible refine Below.setCell ?_ (by first | (simp; done) | (simp; omega)) _ | with_reducible exact Below.refl _ _ | with_reducible exact hb_wb | with_reducible refine Below.on ?_ hb_wb | with_reducible exact hb_wc | with_reducible refine Below.on ?_ hb_wc | with_reducible exact hb_wd | with_reducible refine Below.on ?_ hb_wd | with_reducible exact hb_we | with_reducible refine Below.on ?_ hb_we | with_reducible exact hb_wf | with_reducible refine Below.on ?_ hb_wf | with_reducible exact hb_wg | with_reducible refine Below.on ?_ hb_wg | with_reducible exact hb_wh | with_reducible refine Below.on ?_ hb_wh | with_reducible exact hb_wi | with_reducible refine Below.on ?_ hb_wi | with_reducible exact hb_wj | with_reducible refine Below.on ?_ hb_wj | with_reducible exact hb_wk | with_reducible refine Below.on ?_ hb_wk | with_reducible exact hb_wl | with_reducible refine Below.on ?_ hb_wl | with_reducible exact hb_wm | with_reducible refine Below.on ?_ hb_wm | with_reducible exact hb_wn | with_reducible refine Below.on ?_ hb_wn | with_reducible exact hb_wo | with_reducible refine Below.on ?_ hb_wo ))) f1 f2 h1 m1 N3.out).mono ?_
    rintro e wp ⟨p3, l3, c3, rfl, hr3, hb_wp⟩
    have hc_wp := (bcell hb_wp).1
    have hf_wp := (bcell hb_wp).2
    replace hr3 := Lib.hid hr3
    have hz_wp_0 : w.heap.size < wp.heap.size := by have h_ := hb_wp.size; (try simp at h_); omega
    have hz_wp_1 : w.heap.size + 1 < wp.heap.size := by have h_ := hb_wp.size; (try simp at h_); omega
    have hz_wp_0 : wj.heap.size < wp.heap.size := by have h_ := hb_wp.size; (try simp at h_); omega
    have hz_wp_0 : wk.heap.size < wp.heap.size := by have h_ := hb_wp.size; (try simp at h_); omega
    have hz_wp_0 : wm.heap.size < wp.heap.size := by have h_ := hb_wp.size; (try simp at h_); omega
    have hz_wp_0 : wn.heap.size < wp.heap.size := by have h_ := hb_wp.size; (try simp at h_); omega
    have hz_wp_1 : wn.heap.size + 1 < wp.heap.size := by have h_ := hb_wp.size; (try simp at h_); omega
    have hz_wp_0 : wo.heap.size < wp.heap.size := by have h_ := hb_wp.size; (try simp at h_); omega
    have hz_wp_1 : wo.heap.size + 1 < wp.heap.size := by have h_ := hb_wp.size; (try simp at h_); omega
    go_wp2_with fail
    refine (rranked_all _ (HR.out.below HR.out.lt (by repeat (first | with_reducible refine Below.drew ?_ | with_reducible refine below_drewN ?_ | with_reducible refine Below.alloc_ ?_ _ | with_reducible refine Below.setCell ?_ (by first | (simp; done) | (simp; omega)) _ | with_reducible exact Below.refl _ _ | with_reducible exact hb_wb | with_reducible refine Below.on ?_ hb_wb | with_reducible exact hb_wc | with_reducible refine Below.on ?_ hb_wc | with_reducible exact hb_wd | with_reducible refine Below.on ?_ hb_wd | with_reducible exact hb_we | with_reducible refine Below.on ?_ hb_we | with_reducible exact hb_wf | with_reducible refine Below.on ?_ hb_wf | with_reducible exact hb_wg | with_reducible refine Below.on ?_ hb_wg | with_reducible exact hb_wh | with_reducible refine Below.on ?_ hb_wh | with_reducible exact hb_wi | with_reducible refine Below.on ?_ hb_wi | with_reducible exact hb_wj | with_reducible refine Below.on ?_ hb_wj | with_reducible exact hb_wk | with_reducible refine Below.on ?_ hb_wk | with_reducible exact hb_wl | with_reducible refine Below.on ?_ hb_wl | with_reducible exact hb_wm | with_reducible refine Below.on ?_ hb_wm | with_reducible exact hb_wn | with_reducible refine Below.on ?_ hb_wn | with_reducible exact hb_wo | with_reducible refine Below.on ?_ hb_wo | with_reducible exact hb_wp | with_reducible refine Below.on ?_ hb_wp ))) f1 f2 h2 m0 m1 N4.out).mono ?_
    rintro e wq ⟨p4, l4, c4, rfl, hr4, hb_wq⟩
    have hc_wq := (bcell hb_wq).1
    have hf_wq := (bcell hb_wq).2
    replace hr4 := Lib.hid hr4
    have hz_wq_0 : w.heap.size < wq.heap.size := by have h_ := hb_wq.size; (try simp at h_); omega
    have hz_wq_1 : w.heap.size + 1 < wq.heap.size := by have h_ := hb_wq.size; (try simp at h_); omega
    have hz_wq_0 : wj.heap.size < wq.heap.size := by have h_ := hb_wq.size; (try simp at h_); omega
    have hy_wq_wj : wj.heap.size < wq.heap.size + 1 + 1 := by omega
    have hz_wq_0 : wk.heap.size < wq.heap.size := by have h_ := hb_wq.size; (try simp at h_); omega
    have hy_wq_wk : wk.heap.size < wq.heap.size + 1 + 1 := by omega
    have hz_wq_0 : wm.heap.size < wq.heap.size := by have h_ := hb_wq.size; (try simp at h_); omega
    have hy_wq_wm : wm.heap.size < wq.heap.size + 1 + 1 := by omega
    have hz_wq_0 : wn.heap.size < wq.heap.size := by have h_ := hb_wq.size; (try simp at h_); omega
    have hz_wq_1 : wn.heap.size + 1 < wq.heap.size := by have h_ := hb_wq.size; (try simp at h_); omega
    have hy_wq_wn : wn.heap.size < wq.heap.size + 1 + 1 := by omega
    have hz_wq_0 : wo.heap.size < wq.heap.size := by have h_ := hb_wq.size; (try simp at h_); omega
    have hz_wq_1 : wo.heap.size + 1 < wq.heap.size := by have h_ := hb_wq.size; (try simp at h_); omega
    have hy_wq_wo : wo.heap.size < wq.heap.size + 1 + 1 := by omega
    have hz_wq_0 : wp.heap.size < wq.heap.size := by have h_ := hb_wq.size; (try simp at h_); omega
    have hy_wq_wp : wp.heap.size < wq.heap.size + 1 + 1 := by omega
    go_wp2_with fail
    refine (is_all T1 v1 p1 l1 c1 ?_ ?_).mono ?_
    · exact ha1.out.below (by repeat (first | with_reducible refine Below.drew ?_ | with_reducible refine below_drewN ?_ | with_reducible refine Below.alloc_ ?_ _ | with_reducible refine Below.setCell ?_ (by first | (simp; done) | (simp; omega)) _ | with_reducible exact Below.refl _ _ | with_reducible exact hb_wk | with_reducible refine Below.on ?_ hb_wk | with_reducible exact hb_wl | with_reducible refine Below.on ?_ hb_wl | with_reducible exact hb_wm | with_reducible refine Below.on ?_ hb_wm | with_reducible exact hb_wn | with_reducible refine Below.on ?_ hb_wn | with_reducible exact hb_wo | with_reducible refine Below.on ?_ hb_wo | with_reducible exact hb_wp | with_reducible refine Below.on ?_ hb_wp | with_reducible exact hb_wq | with_reducible refine Below.on ?_ hb_wq ))
    · exact hr1.out.below (by repeat (first | with_reducible refine Below.drew ?_ | with_reducible refine below_drewN ?_ | with_reducible refine Below.alloc_ ?_ _ | with_reducible refine Below.setCell ?_ (by first | (simp; done) | (simp; omega)) _ | with_reducible exact Below.refl _ _ | with_reducible exact hb_wo | with_reducible refine Below.on ?_ hb_wo | with_reducible exact hb_wp | with_reducible refine Below.on ?_ hb_wp | with_reducible exact hb_wq | with_reducible refine Below.on ?_ hb_wq ))
    rintro e wr ⟨rfl, hb_wr⟩
    have hc_wr := (bcell hb_wr).1
    have hf_wr := (bcell hb_wr).2
    have hz_wr_0 : w.heap.size < wr.heap.size := by have h_ := hb_wr.size; (try simp at h_); omega
    have hz_wr_1 : w.heap.size + 1 < wr.heap.size := by have h_ := hb_wr.size; (try simp at h_); omega
    have hz_wr_0 : wj.heap.size < wr.heap.size := by have h_ := hb_wr.size; (try simp at h_); omega
    have hz_wr_0 : wk.heap.size < wr.heap.size := by have h_ := hb_wr.size; (try simp at h_); omega
    have hz_wr_0 : wm.heap.size < wr.heap.size := by have h_ := hb_wr.size; (try simp at h_); omega
    have hz_wr_0 : wn.heap.size < wr.heap.size := by have h_ := hb_wr.size; (try simp at h_); omega
    have hz_wr_1 : wn.heap.size + 1 < wr.heap.size := by have h_ := hb_wr.size; (try simp at h_); omega
    have hz_wr_0 : wo.heap.size < wr.heap.size := by have h_ := hb_wr.size; (try simp at h_); omega
    have hz_wr_1 : wo.heap.size + 1 < wr.heap.size := by have h_ := hb_wr.size; (try simp at h_); omega
    have hz_wr_0 : wp.heap.size < wr.heap.size := by have h_ := hb_wr.size; (try simp at h_); omega
    have hz_wr_0 : wq.heap.size < wr.heap.size := by have h_ := hb_wr.size; (try simp at h_); omega
    have hz_wr_1 : wq.heap.size + 1 < wr.heap.size := by have h_ := hb_wr.size; (try simp at h_); omega
    go_wp2_with fail
    refine (is_all T2 v2 p2 l2 c2 ?_ ?_).mono ?_
    · exact ha2.out.below (by repeat (first | with_reducible refine Below.drew ?_ | with_reducible refine below_drewN ?_ | with_reducible refine Below.alloc_ ?_ _ | with_reducible refine Below.setCell ?_ (by first | (simp; done) | (simp; omega)) _ | with_reducible exact Below.refl _ _ | with_reducible exact hb_wl | with_reducible refine Below.on ?_ hb_wl | with_reducible exact hb_wm | with_reducible refine Below.on ?_ hb_wm | with_reducible exact hb_wn | with_reducible refine Below.on ?_ hb_wn | with_reducible exact hb_wo | with_reducible refine Below.on ?_ hb_wo | with_reducible exact hb_wp | with_reducible refine Below.on ?_ hb_wp | with_reducible exact hb_wq | with_reducible refine Below.on ?_ hb_wq | with_reducible exact hb_wr | with_reducible refine Below.on ?_ hb_wr ))
    · exact hr2.out.below (by repeat (first | with_reducible refine Below.drew ?_ | with_reducible refine below_drewN ?_ | with_reducible refine Below.alloc_ ?_ _ | with_reducible refine Below.setCell ?_ (by first | (simp; done) | (simp; omega)) _ | with_reducible exact Below.refl _ _ | with_reducible exact hb_wp | with_reducible refine Below.on ?_ hb_wp | with_reducible exact hb_wq | with_reducible refine Below.on ?_ hb_wq | with_reducible exact hb_wr | with_reducible refine Below.on ?_ hb_wr ))
    rintro e ws ⟨rfl, hb_ws⟩
    have hc_ws := (bcell hb_ws).1
    have hf_ws := (bcell hb_ws).2
    have hz_ws_0 : w.heap.size < ws.heap.size := by have h_ := hb_ws.size; (try simp at h_); omega
    have hz_ws_1 : w.heap.size + 1 < ws.heap.size := by have h_ := hb_ws.size; (try simp at h_); omega
    have hz_ws_0 : wj.heap.size < ws.heap.size := by have h_ := hb_ws.size; (try simp at h_); omega
    have hz_ws_0 : wk.heap.size < ws.heap.size := by have h_ := hb_ws.size; (try simp at h_); omega
    have hz_ws_0 : wm.heap.size < ws.heap.size := by have h_ := hb_ws.size; (try simp at h_); omega
    have hz_ws_0 : wn.heap.size < ws.heap.size := by have h_ := hb_ws.size; (try simp at h_); omega
    have hz_ws_1 : wn.heap.size + 1 < ws.heap.size := by have h_ := hb_ws.size; (try simp at h_); omega
    have hz_ws_0 : wo.heap.size < ws.heap.size := by have h_ := hb_ws.size; (try simp at h_); omega
    have hz_ws_1 : wo.heap.size + 1 < ws.heap.size := by have h_ := hb_ws.size; (try simp at h_); omega
    have hz_ws_0 : wp.heap.size < ws.heap.size := by have h_ := hb_ws.size; (try simp at h_); omega
    have hz_ws_0 : wq.heap.size < ws.heap.size := by have h_ := hb_ws.size; (try simp at h_); omega
    have hz_ws_1 : wq.heap.size + 1 < ws.heap.size := by have h_ := hb_ws.size; (try simp at h_); omega
    go_wp2_with fail
    refine (is_all T3 v3 p3 l3 c3 ?_ ?_).mono ?_
    · exact ha3.out.below (by repeat (first | with_reducible refine Below.drew ?_ | with_reducible refine below_drewN ?_ | with_reducible refine Below.alloc_ ?_ _ | with_reducible refine Below.setCell ?_ (by first | (simp; done) | (simp; omega)) _ | with_reducible exact Below.refl _ _ | with_reducible exact hb_wm | with_reducible refine Below.on ?_ hb_wm | with_reducible exact hb_wn | with_reducible refine Below.on ?_ hb_wn | with_reducible exact hb_wo | with_reducible refine Below.on ?_ hb_wo | with_reducible exact hb_wp | with_reducible refine Below.on ?_ hb_wp | with_reducible exact hb_wq | with_reducible refine Below.on ?_ hb_wq | with_reducible exact hb_wr | with_reducible refine Below.on ?_ hb_wr | with_reducible exact hb_ws | with_reducible refine Below.on ?_ hb_ws ))
    · exact hr3.out.below (by repeat (first | with_reducible refine Below.drew ?_ | with_reducible refine below_drewN ?_ | with_reducible refine Below.alloc_ ?_ _ | with_reducible refine Below.setCell ?_ (by first | (simp; done) | (simp; omega)) _ | with_reducible exact Below.refl _ _ | with_reducible exact hb_wq | with_reducible refine Below.on ?_ hb_wq | with_reducible exact hb_wr | with_reducible refine Below.on ?_ hb_wr | with_reducible exact hb_ws | with_reducible refine Below.on ?_ hb_ws ))
    rintro e wt ⟨rfl, hb_wt⟩
    have hc_wt := (bcell hb_wt).1
    have hf_wt := (bcell hb_wt).2
    have hz_wt_0 : w.heap.size < wt.heap.size := by have h_ := hb_wt.size; (try simp at h_); omega
    have hz_wt_1 : w.heap.size + 1 < wt.heap.size := by have h_ := hb_wt.size; (try simp at h_); omega
    have hz_wt_0 : wj.heap.size < wt.heap.size := by have h_ := hb_wt.size; (try simp at h_); omega
    have hz_wt_0 : wk.heap.size < wt.heap.size := by have h_ := hb_wt.size; (try simp at h_); omega
    have hz_wt_0 : wm.heap.size < wt.heap.size := by have h_ := hb_wt.size; (try simp at h_); omega
    have hz_wt_0 : wn.heap.size < wt.heap.size := by have h_ := hb_wt.size; (try simp at h_); omega
    have hz_wt_1 : wn.heap.size + 1 < wt.heap.size := by have h_ := hb_wt.size; (try simp at h_); omega
    have hz_wt_0 : wo.heap.size < wt.heap.size := by have h_ := hb_wt.size; (try simp at h_); omega
    have hz_wt_1 : wo.heap.size + 1 < wt.heap.size := by have h_ := hb_wt.size; (try simp at h_); omega
    have hz_wt_0 : wp.heap.size < wt.heap.size := by have h_ := hb_wt.size; (try simp at h_); omega
    have hz_wt_0 : wq.heap.size < wt.heap.size := by have h_ := hb_wt.size; (try simp at h_); omega
    have hz_wt_1 : wq.heap.size + 1 < wt.heap.size := by have h_ := hb_wt.size; (try simp at h_); omega
    go_wp2_with fail
    refine (is_all T4 v4 p4 l4 c4 ?_ ?_).mono ?_
    · exact ha4.out.below (by repeat (first | with_reducible refine Below.drew ?_ | with_reducible refine below_drewN ?_ | with_reducible refine Below.alloc_ ?_ _ | with_reducible refine Below.setCell ?_ (by first | (simp; done) | (simp; omega)) _ | with_reducible exact Below.refl _ _ | with_reducible exact hb_wn | with_reducible refine Below.on ?_ hb_wn | with_reducible exact hb_wo | with_reducible refine Below.on ?_ hb_wo | with_reducible exact hb_wp | with_reducible refine Below.on ?_ hb_wp | with_reducible exact hb_wq | with_reducible refine Below.on ?_ hb_wq | with_reducible exact hb_wr | with_reducible refine Below.on ?_ hb_wr | with_reducible exact hb_ws | with_reducible refine Below.on ?_ hb_ws | with_reducible exact hb_wt | with_reducible refine Below.on ?_ hb_wt ))
    · exact hr4.out.below (by repeat (first | with_reducible refine Below.drew ?_ | with_reducible refine below_drewN ?_ | with_reducible refine Below.alloc_ ?_ _ | with_reducible refine Below.setCell ?_ (by first | (simp; done) | (simp; omega)) _ | with_reducible exact Below.refl _ _ | with_reducible exact hb_wr | with_reducible refine Below.on ?_ hb_wr | with_reducible exact hb_ws | with_reducible refine Below.on ?_ hb_ws | with_reducible exact hb_wt | with_reducible refine Below.on ?_ hb_wt ))
    rintro e wu ⟨rfl, hb_wu⟩
    have hc_wu := (bcell hb_wu).1
    have hf_wu := (bcell hb_wu).2
    have hz_wu_0 : w.heap.size < wu.heap.size := by have h_ := hb_wu.size; (try simp at h_); omega
    have hz_wu_1 : w.heap.size + 1 < wu.heap.size := by have h_ := hb_wu.size; (try simp at h_); omega
    have hz_wu_0 : wj.heap.size < wu.heap.size := by have h_ := hb_wu.size; (try simp at h_); omega
    have hz_wu_0 : wk.heap.size < wu.heap.size := by have h_ := hb_wu.size; (try simp at h_); omega
    have hz_wu_0 : wm.heap.size < wu.heap.size := by have h_ := hb_wu.size; (try simp at h_); omega
    have hz_wu_0 : wn.heap.size < wu.heap.size := by have h_ := hb_wu.size; (try simp at h_); omega
    have hz_wu_1 : wn.heap.size + 1 < wu.heap.size := by have h_ := hb_wu.size; (try simp at h_); omega
    have hz_wu_0 : wo.heap.size < wu.heap.size := by have h_ := hb_wu.size; (try simp at h_); omega
    have hz_wu_1 : wo.heap.size + 1 < wu.heap.size := by have h_ := hb_wu.size; (try simp at h_); omega
    have hz_wu_0 : wp.heap.size < wu.heap.size := by have h_ := hb_wu.size; (try simp at h_); omega
    have hz_wu_0 : wq.heap.size < wu.heap.size := by have h_ := hb_wu.size; (try simp at h_); omega
    have hz_wu_1 : wq.heap.size + 1 < wu.heap.size := by have h_ := hb_wu.size; (try simp at h_); omega
    go_wp2
    go_ret
    exact ⟨by simp, (by repeat (first | with_reducible refine Below.drew ?_ | with_reducible refine below_drewN ?_ | with_reducible refine Below.alloc_ ?_ _ | with_reducible refine Below.setCell ?_ (by first | (simp; done) | (simp; omega)) _ | with_reducible exact Below.refl _ _ | with_reducible exact hb_wa | with_reducible refine Below.on ?_ hb_wa | with_reducible exact hb_wb | with_reducible refine Below.on ?_ hb_wb | with_reducible exact hb_wc | with_reducible refine Below.on ?_ hb_wc | with_reducible exact hb_wd | with_reducible refine Below.on ?_ hb_wd | with_reducible exact hb_we | with_reducible refine Below.on ?_ hb_we | with_reducible exact hb_wf | with_reducible refine Below.on ?_ hb_wf | with_reducible exact hb_wg | with_reducible refine Below.on ?_ hb_wg | with_reducible exact hb_wh | with_reducible refine Below.on ?_ hb_wh | with_reducible exact hb_wi | with_reducible refine Below.on ?_ hb_wi | with_reducible exact hb_wj | with_reducible refine Below.on ?_ hb_wj | with_reducible exact hb_wk | with_reducible refine Below.on ?_ hb_wk | with_reducible exact hb_wl | with_reducible refine Below.on ?_ hb_wl | with_reducible exact hb_wm | with_reducible refine Below.on ?_ hb_wm | with_reducible exact hb_wn | with_reducible refine Below.on ?_ hb_wn | with_reducible exact hb_wo | with_reducible refine Below.on ?_ hb_wo | with_reducible exact hb_wp | with_reducible refine Below.on ?_ hb_wp | with_reducible exact hb_wq | with_reducible refine Below.on ?_ hb_wq | with_reducible exact hb_wr | with_reducible refine Below.on ?_ hb_wr | with_reducible exact hb_ws | with_reducible refine Below.on ?_ hb_ws | with_reducible exact hb_wt | with_reducible refine Below.on ?_ hb_wt | with_reducible exact hb_wu | with_reducible refine Below.on ?_ hb_wu ))⟩
  · have hc_wa := (bcell hb_wa).1
    have hf_wa := (bcell hb_wa).2
    have hz_wa_0 : w.heap.size < wa.heap.size := by have h_ := hb_wa.size; (try simp at h_); omega
    have hz_wa_1 : w.heap.size + 1 < wa.heap.size := by have h_ := hb_wa.size; (try simp at h_); omega
    go_wp2_with fail
    have NM : NotMade (wa.alloc (.cells #[.int .i64 0, .int .i64 0, .int .u64 0, .int .u64 0, .int .u64 0, .int .u64 0, .int .u64 0, .int .u64 0, .int .u64 0, .int .u64 0, .int .i64 0] 56)) (some ⟨wa.heap.size, 0, none⟩) := .inr ⟨_, rfl, by simp, by simp⟩
    replace NM := Lib.hid NM
    refine (next_not _ _ _ _ NM.out).mono ?_
    rintro e wb ⟨p1, rfl, he1, hb_wb⟩
    have hc_wb := (bcell hb_wb).1
    have hf_wb := (bcell hb_wb).2
    replace he1 := Lib.hid he1
    have hz_wb_0 : w.heap.size < wb.heap.size := by have h_ := hb_wb.size; (try simp at h_); omega
    have hz_wb_1 : w.heap.size + 1 < wb.heap.size := by have h_ := hb_wb.size; (try simp at h_); omega
    go_wp2_with fail
    refine (own_no _ _ _ _ 3 _ (FormNo.zero _ _ _ _ (NM.out.below (by repeat (first | with_reducible refine Below.drew ?_ | with_reducible refine below_drewN ?_ | with_reducible refine Below.alloc_ ?_ _ | with_reducible refine Below.setCell ?_ (by first | (simp; done) | (simp; omega)) _ | with_reducible exact Below.refl _ _ | with_reducible exact hb_wb | with_reducible refine Below.on ?_ hb_wb ))))).mono ?_
    rintro e wc ⟨p2, rfl, he2, hb_wc⟩
    have hc_wc := (bcell hb_wc).1
    have hf_wc := (bcell hb_wc).2
    replace he2 := Lib.hid he2
    have hz_wc_0 : w.heap.size < wc.heap.size := by have h_ := hb_wc.size; (try simp at h_); omega
    have hz_wc_1 : w.heap.size + 1 < wc.heap.size := by have h_ := hb_wc.size; (try simp at h_); omega
    go_wp2_with fail
    refine (rank_no _ _ _ 3 _ (FormNo.zero _ _ _ _ (NM.out.below (by repeat (first | with_reducible refine Below.drew ?_ | with_reducible refine below_drewN ?_ | with_reducible refine Below.alloc_ ?_ _ | with_reducible refine Below.setCell ?_ (by first | (simp; done) | (simp; omega)) _ | with_reducible exact Below.refl _ _ | with_reducible exact hb_wb | with_reducible refine Below.on ?_ hb_wb | with_reducible exact hb_wc | with_reducible refine Below.on ?_ hb_wc ))))).mono ?_
    rintro e wd ⟨p3, rfl, he3, hb_wd⟩
    have hc_wd := (bcell hb_wd).1
    have hf_wd := (bcell hb_wd).2
    replace he3 := Lib.hid he3
    have hz_wd_0 : w.heap.size < wd.heap.size := by have h_ := hb_wd.size; (try simp at h_); omega
    have hz_wd_1 : w.heap.size + 1 < wd.heap.size := by have h_ := hb_wd.size; (try simp at h_); omega
    go_wp2_with fail
    refine (ranked_not _ _ _ (NM.out.below (by repeat (first | with_reducible refine Below.drew ?_ | with_reducible refine below_drewN ?_ | with_reducible refine Below.alloc_ ?_ _ | with_reducible refine Below.setCell ?_ (by first | (simp; done) | (simp; omega)) _ | with_reducible exact Below.refl _ _ | with_reducible exact hb_wb | with_reducible refine Below.on ?_ hb_wb | with_reducible exact hb_wc | with_reducible refine Below.on ?_ hb_wc | with_reducible exact hb_wd | with_reducible refine Below.on ?_ hb_wd )))).mono ?_
    rintro e we ⟨p4, rfl, he4, hb_we⟩
    have hc_we := (bcell hb_we).1
    have hf_we := (bcell hb_we).2
    replace he4 := Lib.hid he4
    have hz_we_0 : w.heap.size < we.heap.size := by have h_ := hb_we.size; (try simp at h_); omega
    have hz_we_1 : w.heap.size + 1 < we.heap.size := by have h_ := hb_we.size; (try simp at h_); omega
    go_wp2_with fail
    refine (zero_err _ _ (he1.out.below (by repeat (first | with_reducible refine Below.drew ?_ | with_reducible refine below_drewN ?_ | with_reducible refine Below.alloc_ ?_ _ | with_reducible refine Below.setCell ?_ (by first | (simp; done) | (simp; omega)) _ | with_reducible exact Below.refl _ _ | with_reducible exact hb_wc | with_reducible refine Below.on ?_ hb_wc | with_reducible exact hb_wd | with_reducible refine Below.on ?_ hb_wd | with_reducible exact hb_we | with_reducible refine Below.on ?_ hb_we ))).is).mono ?_
    rintro e wf ⟨rfl, hb_wf⟩
    have hc_wf := (bcell hb_wf).1
    have hf_wf := (bcell hb_wf).2
    have hz_wf_0 : w.heap.size < wf.heap.size := by have h_ := hb_wf.size; (try simp at h_); omega
    have hz_wf_1 : w.heap.size + 1 < wf.heap.size := by have h_ := hb_wf.size; (try simp at h_); omega
    go_wp2_with fail
    refine (zero_err _ _ (he2.out.below (by repeat (first | with_reducible refine Below.drew ?_ | with_reducible refine below_drewN ?_ | with_reducible refine Below.alloc_ ?_ _ | with_reducible refine Below.setCell ?_ (by first | (simp; done) | (simp; omega)) _ | with_reducible exact Below.refl _ _ | with_reducible exact hb_wd | with_reducible refine Below.on ?_ hb_wd | with_reducible exact hb_we | with_reducible refine Below.on ?_ hb_we | with_reducible exact hb_wf | with_reducible refine Below.on ?_ hb_wf ))).is).mono ?_
    rintro e wg ⟨rfl, hb_wg⟩
    have hc_wg := (bcell hb_wg).1
    have hf_wg := (bcell hb_wg).2
    have hz_wg_0 : w.heap.size < wg.heap.size := by have h_ := hb_wg.size; (try simp at h_); omega
    have hz_wg_1 : w.heap.size + 1 < wg.heap.size := by have h_ := hb_wg.size; (try simp at h_); omega
    go_wp2_with fail
    refine (zero_err _ _ (he3.out.below (by repeat (first | with_reducible refine Below.drew ?_ | with_reducible refine below_drewN ?_ | with_reducible refine Below.alloc_ ?_ _ | with_reducible refine Below.setCell ?_ (by first | (simp; done) | (simp; omega)) _ | with_reducible exact Below.refl _ _ | with_reducible exact hb_we | with_reducible refine Below.on ?_ hb_we | with_reducible exact hb_wf | with_reducible refine Below.on ?_ hb_wf | with_reducible exact hb_wg | with_reducible refine Below.on ?_ hb_wg ))).is).mono ?_
    rintro e wh ⟨rfl, hb_wh⟩
    have hc_wh := (bcell hb_wh).1
    have hf_wh := (bcell hb_wh).2
    have hz_wh_0 : w.heap.size < wh.heap.size := by have h_ := hb_wh.size; (try simp at h_); omega
    have hz_wh_1 : w.heap.size + 1 < wh.heap.size := by have h_ := hb_wh.size; (try simp at h_); omega
    go_wp2_with fail
    refine (zero_err _ _ (he4.out.below (by repeat (first | with_reducible refine Below.drew ?_ | with_reducible refine below_drewN ?_ | with_reducible refine Below.alloc_ ?_ _ | with_reducible refine Below.setCell ?_ (by first | (simp; done) | (simp; omega)) _ | with_reducible exact Below.refl _ _ | with_reducible exact hb_wf | with_reducible refine Below.on ?_ hb_wf | with_reducible exact hb_wg | with_reducible refine Below.on ?_ hb_wg | with_reducible exact hb_wh | with_reducible refine Below.on ?_ hb_wh ))).is).mono ?_
    rintro e wi ⟨rfl, hb_wi⟩
    have hc_wi := (bcell hb_wi).1
    have hf_wi := (bcell hb_wi).2
    have hz_wi_0 : w.heap.size < wi.heap.size := by have h_ := hb_wi.size; (try simp at h_); omega
    have hz_wi_1 : w.heap.size + 1 < wi.heap.size := by have h_ := hb_wi.size; (try simp at h_); omega
    go_wp2_with fail
    refine (next_not _ _ _ _ (.inl rfl)).mono ?_
    rintro e wj ⟨q1, rfl, hf1, hb_wj⟩
    have hc_wj := (bcell hb_wj).1
    have hf_wj := (bcell hb_wj).2
    replace hf1 := Lib.hid hf1
    have hz_wj_0 : w.heap.size < wj.heap.size := by have h_ := hb_wj.size; (try simp at h_); omega
    have hz_wj_1 : w.heap.size + 1 < wj.heap.size := by have h_ := hb_wj.size; (try simp at h_); omega
    go_wp2_with fail
    refine (own_no _ _ _ _ 3 _ (FormNo.zero _ _ _ _ (.inl rfl))).mono ?_
    rintro e wk ⟨q2, rfl, hf2, hb_wk⟩
    have hc_wk := (bcell hb_wk).1
    have hf_wk := (bcell hb_wk).2
    replace hf2 := Lib.hid hf2
    have hz_wk_0 : w.heap.size < wk.heap.size := by have h_ := hb_wk.size; (try simp at h_); omega
    have hz_wk_1 : w.heap.size + 1 < wk.heap.size := by have h_ := hb_wk.size; (try simp at h_); omega
    have hz_wk_0 : wj.heap.size < wk.heap.size := by have h_ := hb_wk.size; (try simp at h_); omega
    go_wp2_with fail
    refine (rank_no _ _ _ 3 _ (FormNo.zero _ _ _ _ (.inl rfl))).mono ?_
    rintro e wl ⟨q3, rfl, hf3, hb_wl⟩
    have hc_wl := (bcell hb_wl).1
    have hf_wl := (bcell hb_wl).2
    replace hf3 := Lib.hid hf3
    have hz_wl_0 : w.heap.size < wl.heap.size := by have h_ := hb_wl.size; (try simp at h_); omega
    have hz_wl_1 : w.heap.size + 1 < wl.heap.size := by have h_ := hb_wl.size; (try simp at h_); omega
    have hz_wl_0 : wj.heap.size < wl.heap.size := by have h_ := hb_wl.size; (try simp at h_); omega
    have hz_wl_0 : wk.heap.size < wl.heap.size := by have h_ := hb_wl.size; (try simp at h_); omega
    go_wp2_with fail
    refine (ranked_not _ _ _ (.inl rfl)).mono ?_
    rintro e wm ⟨q4, rfl, hf4, hb_wm⟩
    have hc_wm := (bcell hb_wm).1
    have hf_wm := (bcell hb_wm).2
    replace hf4 := Lib.hid hf4
    have hz_wm_0 : w.heap.size < wm.heap.size := by have h_ := hb_wm.size; (try simp at h_); omega
    have hz_wm_1 : w.heap.size + 1 < wm.heap.size := by have h_ := hb_wm.size; (try simp at h_); omega
    have hz_wm_0 : wj.heap.size < wm.heap.size := by have h_ := hb_wm.size; (try simp at h_); omega
    have hz_wm_0 : wk.heap.size < wm.heap.size := by have h_ := hb_wm.size; (try simp at h_); omega
    go_wp2_with fail
    refine (zero_err _ _ (hf1.out.below (by repeat (first | with_reducible refine Below.drew ?_ | with_reducible refine below_drewN ?_ | with_reducible refine Below.alloc_ ?_ _ | with_reducible refine Below.setCell ?_ (by first | (simp; done) | (simp; omega)) _ | with_reducible exact Below.refl _ _ | with_reducible exact hb_wk | with_reducible refine Below.on ?_ hb_wk | with_reducible exact hb_wl | with_reducible refine Below.on ?_ hb_wl | with_reducible exact hb_wm | with_reducible refine Below.on ?_ hb_wm ))).is).mono ?_
    rintro e wn ⟨rfl, hb_wn⟩
    have hc_wn := (bcell hb_wn).1
    have hf_wn := (bcell hb_wn).2
    have hz_wn_0 : w.heap.size < wn.heap.size := by have h_ := hb_wn.size; (try simp at h_); omega
    have hz_wn_1 : w.heap.size + 1 < wn.heap.size := by have h_ := hb_wn.size; (try simp at h_); omega
    have hz_wn_0 : wj.heap.size < wn.heap.size := by have h_ := hb_wn.size; (try simp at h_); omega
    have hz_wn_0 : wk.heap.size < wn.heap.size := by have h_ := hb_wn.size; (try simp at h_); omega
    have hz_wn_0 : wm.heap.size < wn.heap.size := by have h_ := hb_wn.size; (try simp at h_); omega
    go_wp2_with fail
    refine (zero_err _ _ (hf2.out.below (by repeat (first | with_reducible refine Below.drew ?_ | with_reducible refine below_drewN ?_ | with_reducible refine Below.alloc_ ?_ _ | with_reducible refine Below.setCell ?_ (by first | (simp; done) | (simp; omega)) _ | with_reducible exact Below.refl _ _ | with_reducible exact hb_wl | with_reducible refine Below.on ?_ hb_wl | with_reducible exact hb_wm | with_reducible refine Below.on ?_ hb_wm | with_reducible exact hb_wn | with_reducible refine Below.on ?_ hb_wn ))).is).mono ?_
    rintro e wo ⟨rfl, hb_wo⟩
    have hc_wo := (bcell hb_wo).1
    have hf_wo := (bcell hb_wo).2
    have hz_wo_0 : w.heap.size < wo.heap.size := by have h_ := hb_wo.size; (try simp at h_); omega
    have hz_wo_1 : w.heap.size + 1 < wo.heap.size := by have h_ := hb_wo.size; (try simp at h_); omega
    have hz_wo_0 : wj.heap.size < wo.heap.size := by have h_ := hb_wo.size; (try simp at h_); omega
    have hz_wo_0 : wk.heap.size < wo.heap.size := by have h_ := hb_wo.size; (try simp at h_); omega
    have hz_wo_0 : wm.heap.size < wo.heap.size := by have h_ := hb_wo.size; (try simp at h_); omega
    go_wp2_with fail
    refine (zero_err _ _ (hf3.out.below (by repeat (first | with_reducible refine Below.drew ?_ | with_reducible refine below_drewN ?_ | with_reducible refine Below.alloc_ ?_ _ | with_reducible refine Below.setCell ?_ (by first | (simp; done) | (simp; omega)) _ | with_reducible exact Below.refl _ _ | with_reducible exact hb_wm | with_reducible refine Below.on ?_ hb_wm | with_reducible exact hb_wn | with_reducible refine Below.on ?_ hb_wn | with_reducible exact hb_wo | with_reducible refine Below.on ?_ hb_wo ))).is).mono ?_
    rintro e wp ⟨rfl, hb_wp⟩
    have hc_wp := (bcell hb_wp).1
    have hf_wp := (bcell hb_wp).2
    have hz_wp_0 : w.heap.size < wp.heap.size := by have h_ := hb_wp.size; (try simp at h_); omega
    have hz_wp_1 : w.heap.size + 1 < wp.heap.size := by have h_ := hb_wp.size; (try simp at h_); omega
    have hz_wp_0 : wj.heap.size < wp.heap.size := by have h_ := hb_wp.size; (try simp at h_); omega
    have hz_wp_0 : wk.heap.size < wp.heap.size := by have h_ := hb_wp.size; (try simp at h_); omega
    have hz_wp_0 : wm.heap.size < wp.heap.size := by have h_ := hb_wp.size; (try simp at h_); omega
    go_wp2_with fail
    refine (zero_err _ _ (hf4.out.below (by repeat (first | with_reducible refine Below.drew ?_ | with_reducible refine below_drewN ?_ | with_reducible refine Below.alloc_ ?_ _ | with_reducible refine Below.setCell ?_ (by first | (simp; done) | (simp; omega)) _ | with_reducible exact Below.refl _ _ | with_reducible exact hb_wn | with_reducible refine Below.on ?_ hb_wn | with_reducible exact hb_wo | with_reducible refine Below.on ?_ hb_wo | with_reducible exact hb_wp | with_reducible refine Below.on ?_ hb_wp ))).is).mono ?_
    rintro e wq ⟨rfl, hb_wq⟩
    have hc_wq := (bcell hb_wq).1
    have hf_wq := (bcell hb_wq).2
    have hz_wq_0 : w.heap.size < wq.heap.size := by have h_ := hb_wq.size; (try simp at h_); omega
    have hz_wq_1 : w.heap.size + 1 < wq.heap.size := by have h_ := hb_wq.size; (try simp at h_); omega
    have hz_wq_0 : wj.heap.size < wq.heap.size := by have h_ := hb_wq.size; (try simp at h_); omega
    have hz_wq_0 : wk.heap.size < wq.heap.size := by have h_ := hb_wq.size; (try simp at h_); omega
    have hz_wq_0 : wm.heap.size < wq.heap.size := by have h_ := hb_wq.size; (try simp at h_); omega
    go_wp2
    go_ret
    exact ⟨by simp, (by repeat (first | with_reducible refine Below.drew ?_ | with_reducible refine below_drewN ?_ | with_reducible refine Below.alloc_ ?_ _ | with_reducible refine Below.setCell ?_ (by first | (simp; done) | (simp; omega)) _ | with_reducible exact Below.refl _ _ | with_reducible exact hb_wa | with_reducible refine Below.on ?_ hb_wa | with_reducible exact hb_wb | with_reducible refine Below.on ?_ hb_wb | with_reducible exact hb_wc | with_reducible refine Below.on ?_ hb_wc | with_reducible exact hb_wd | with_reducible refine Below.on ?_ hb_wd | with_reducible exact hb_we | with_reducible refine Below.on ?_ hb_we | with_reducible exact hb_wf | with_reducible refine Below.on ?_ hb_wf | with_reducible exact hb_wg | with_reducible refine Below.on ?_ hb_wg | with_reducible exact hb_wh | with_reducible refine Below.on ?_ hb_wh | with_reducible exact hb_wi | with_reducible refine Below.on ?_ hb_wi | with_reducible exact hb_wj | with_reducible refine Below.on ?_ hb_wj | with_reducible exact hb_wk | with_reducible refine Below.on ?_ hb_wk | with_reducible exact hb_wl | with_reducible refine Below.on ?_ hb_wl | with_reducible exact hb_wm | with_reducible refine Below.on ?_ hb_wm | with_reducible exact hb_wn | with_reducible refine Below.on ?_ hb_wn | with_reducible exact hb_wo | with_reducible refine Below.on ?_ hb_wo | with_reducible exact hb_wp | with_reducible refine Below.on ?_ hb_wp | with_reducible exact hb_wq | with_reducible refine Below.on ?_ hb_wq ))⟩
theorem steps_law (a0 a1 a2 a3 a4 a5 a6 a7 a8 a9 bn bd q n : Int) (w : World) (h0 : (Lit.int .i64 a0).wf = true) (h1 : (Lit.int .i64 a1).wf = true) (h2 : (Lit.int .u64 a2).wf = true) (h3 : (Lit.int .u64 a3).wf = true) (h4 : (Lit.int .u64 a4).wf = true) (h5 : (Lit.int .u64 a5).wf = true) (h6 : (Lit.int .u64 a6).wf = true) (h7 : (Lit.int .u64 a7).wf = true) (h8 : (Lit.int .u64 a8).wf = true) (h9 : (Lit.int .u64 a9).wf = true) (h10 : (Lit.int .u64 bn).wf = true) (h11 : (Lit.int .i64 bd).wf = true) (h12 : (Lit.int .i64 q).wf = true) (h13 : (Lit.int .u64 n).wf = true) :
    Calls Try.prog 9 #[.agg #[.int .i64 a0, .int .i64 a1, .int .u64 a2, .int .u64 a3, .int .u64 a4, .int .u64 a5, .int .u64 a6, .int .u64 a7, .int .u64 a8, .int .u64 a9], .agg #[.int .u64 bn, .int .i64 bd], .int .i64 q, .int .u64 n] w fun e w' => e = .returned (.bool true) ∧ Below w.heap.size w w' :=
  steps_walk ⟨a0, a1, a2, a3, a4, a5, a6, a7, a8, a9⟩ bn bd q n w ⟨(wf_i64 h0).1, (wf_i64 h0).2, (wf_i64 h1).1, (wf_i64 h1).2, (wf_u64 h2).1, (wf_u64 h3).1, (wf_u64 h4).1, (wf_u64 h5).1, (wf_u64 h6).1, (wf_u64 h7).1, (wf_u64 h8).1, (wf_u64 h9).1⟩ (wf_u64 h10).1 (wf_u64 h13).1
end Go.Proofs.Ytehmbcpgendkjaa
