import Derived.Test.YtehmbcpgendkjaaRefOwn
namespace Go.Proofs.Ytehmbcpgendkjaa
open Go.RowKit
set_option linter.unusedSimpArgs false
set_option linter.unusedVariables false
/-- What the document's Own answers. -/
def OwnPost (T : Option (Int × Int)) (w : World) (e : Ending) (w' : World) : Prop :=
  match T with
  | some (x, y) => RGot (.agg #[.int .u64 x, .int .i64 y]) w e w'
  | none => RNo (.agg #[.int .u64 0, .int .i64 0]) 0 183 w e w'
set_option maxHeartbeats 3200000 in
theorem rown_ok (b : Nat) (c : Cfg) (n d q : Int) (w : World) (hg : RefAt w b c) (h1 : 1 ≤ c.f) (h2 : c.f ≤ 3) (hn0 : 0 ≤ n) (hm0 : 1 ≤ c.mn) (hm : c.mn ≤ 1099511627776) (hv : validB c n d = true) (hq : 0 ≤ q ∧ q < 2 * c.f + 1) :
    Calls Try.prog 31 #[.pointer (some ⟨b, 0, none⟩), .agg #[.int .u64 n, .int .i64 d], .int .i64 q] w (OwnPost (ownB c n d q) w) := by
  have V : ∀ w1, Below w.heap.size w w1 → Calls Try.prog 21 #[.pointer (some ⟨b, 0, none⟩), .agg #[.int .u64 n, .int .i64 d]] w1 fun e w' => e = .returned (.bool true) ∧ Below w1.heap.size w1 w' := fun w1 hb => by
    have h := rvalid_at b c n d w1 (hg.below hg.lt hb) h1 h2 hn0
    rw [hv] at h
    exact h
  have NB : ∀ w1, Below w.heap.size w w1 → Calls Try.prog 44 #[.pointer (some ⟨b, 0, none⟩), .int .i64 q] w1 fun e w' => e = .returned (.bool true) ∧ Below w1.heap.size w1 w' := fun w1 hb => by
    have h := rnode_at b c.f q w1 (hg.below hg.lt hb).f (by omega) h2
    rw [decide_eq_true hq] at h
    exact sameB h
  have NX := fun w1 hb x y T h0 hv hT => rnext_st b c x y q T w1 (hg.below (w' := w1) hg.lt hb) h1 h2 h0 hm0 hm hv hq hT
  obtain ⟨T, hT⟩ : ∃ T, T = ownB c n d q := ⟨_, rfl⟩
  rw [← hT]
  replace V := Lib.hid V
  replace NB := Lib.hid NB
  replace NX := Lib.hid NX
  replace hT := Lib.hid hT
  replace hv := Lib.hid hv
  clear hg
  go_enter Try.func31, Try.ntmps31
  go_wp2_with fail
  refine (V.out _ (by repeat (first | exact Below.refl _ _ | refine Below.alloc_ ?_ _ | refine Below.drew ?_ | refine below_drewN ?_ | refine Below.setCell ?_ (by first | (simp; done) | (simp; omega)) _))).mono ?_
  rintro e wa ⟨rfl, hb_wa⟩
  have hc_wa := (bcell hb_wa).1
  have hf_wa := (bcell hb_wa).2
  have hz_wa_0 : w.heap.size < wa.heap.size := by have h_ := hb_wa.size; (try simp at h_); omega
  have hz_wa_1 : w.heap.size + 1 < wa.heap.size := by have h_ := hb_wa.size; (try simp at h_); omega
  have hz_wa_2 : w.heap.size + 1 + 1 < wa.heap.size := by have h_ := hb_wa.size; (try simp at h_); omega
  go_wp2_with fail
  refine (NB.out _ (by repeat (first | exact Below.refl _ _ | exact hb_wa | refine Below.on ?_ hb_wa | refine Below.alloc_ ?_ _ | refine Below.drew ?_ | refine below_drewN ?_ | refine Below.setCell ?_ (by first | (simp; done) | (simp; omega)) _))).mono ?_
  rintro e wx ⟨rfl, hb_wx⟩
  have hc_wx := (bcell hb_wx).1
  have hf_wx := (bcell hb_wx).2
  have hz_wx_0 : w.heap.size < wx.heap.size := by have h_ := hb_wx.size; (try simp at h_); omega
  have hz_wx_1 : w.heap.size + 1 < wx.heap.size := by have h_ := hb_wx.size; (try simp at h_); omega
  have hz_wx_2 : w.heap.size + 1 + 1 < wx.heap.size := by have h_ := hb_wx.size; (try simp at h_); omega
  go_wp2_with fail
  refine (NX.out _ (by repeat (first | exact Below.refl _ _ | exact hb_wa | refine Below.on ?_ hb_wa | exact hb_wx | refine Below.on ?_ hb_wx | refine Below.alloc_ ?_ _ | refine Below.drew ?_ | refine below_drewN ?_ | refine Below.setCell ?_ (by first | (simp; done) | (simp; omega)) _)) n d T hn0 hv.out hT.out).mono ?_
  rintro e wb ⟨x0, y0, sp0, ln0, cd0, k0, rfl, hst0, hk0, hb_wb⟩
  have hc_wb := (bcell hb_wb).1
  have hf_wb := (bcell hb_wb).2
  replace hst0 := Lib.hid hst0
  replace hk0 := Lib.hid hk0
  have hz_wb_0 : w.heap.size < wb.heap.size := by have h_ := hb_wb.size; (try simp at h_); omega
  have hz_wb_1 : w.heap.size + 1 < wb.heap.size := by have h_ := hb_wb.size; (try simp at h_); omega
  have hz_wb_2 : w.heap.size + 1 + 1 < wb.heap.size := by have h_ := hb_wb.size; (try simp at h_); omega
  go_wp2
  go_loopg [] k0 (fun k wr => ∃ (x y : Int) (sp : Option Addr) (ln : Nat) (cd : Int), wr.cell? ⟨wb.heap.size, 0, none⟩ = some (.int .u64 x) ∧ wr.cell? ⟨wb.heap.size, 1, none⟩ = some (.int .i64 y) ∧ wr.cell? ⟨wb.heap.size + 1, 0, none⟩ = some (.slice sp ln ln) ∧ wr.cell? ⟨wb.heap.size + 1, 1, none⟩ = some (.int .i64 cd) ∧ wr.frozen? ⟨wb.heap.size, 0, none⟩ = false ∧ wr.frozen? ⟨wb.heap.size, 1, none⟩ = false ∧ wr.frozen? ⟨wb.heap.size + 1, 0, none⟩ = false ∧ wr.frozen? ⟨wb.heap.size + 1, 1, none⟩ = false ∧ OwnSt c q T (w.heap.size + 3) wr x y sp ln cd k ∧ Below wb.heap.size wb wr ∧ wb.heap.size + 2 ≤ wr.heap.size)
  case atStart =>
    refine ⟨x0, y0, sp0, ln0, cd0, by simp, by simp, by simp, by simp, by simp, by simp, by simp, by simp, ?_, (by repeat (first | with_reducible refine Below.drew ?_ | with_reducible refine below_drewN ?_ | with_reducible refine Below.alloc_ ?_ _ | with_reducible refine Below.setCell ?_ (by first | (simp; done) | (simp; omega)) _ | with_reducible exact Below.refl _ _ )), by simp⟩
    rcases hst0.out with ⟨e1, e2, e3, e4, e5, e6, e7⟩ | ⟨e1, e2, e3, e4, ⟨g, e5, e6, e7⟩, e8, e9⟩
    · exact .inl ⟨e1, e2, e3, e4, e5, e6, e7⟩
    · have h_ := hz_wx_2
      refine .inr ⟨e1, e2, e3, e4, ⟨g, e5, by first | omega | (simp at e6; omega), by simp; omega⟩, ?_, e9⟩
      exact (LnkAt.alloc_ (LnkAt.alloc_ e8))
  case round =>
    obtain ⟨x, y, sp, ln, cd, k1, k2, k3, k4, k5, k6, k7, k8, hst, hB, hsz⟩ := hrel
    have hc_r := (bcell hB).1
    have hf_r := (bcell hB).2
    have hb_wr := hB
    have hs0 : w.heap.size < wr.heap.size := by omega
    have hs1 : w.heap.size + 1 < wr.heap.size := by omega
    have hs2 : w.heap.size + 1 + 1 < wr.heap.size := by omega
    have hs3 : wb.heap.size < wr.heap.size := by omega
    have hs4 : wb.heap.size + 1 < wr.heap.size := by omega
    rcases hst with ⟨rfl, rfl, rfl, e4, e5, e6, e7⟩ | ⟨rfl, rfl, rfl, rfl, ⟨g, rfl, e6, e7⟩, e8, rfl, e9⟩
    · replace e4 := Lib.hid e4
      by_cases hy : y = q
      · subst hy
        replace e6 := Lib.hid (e6.trans (if_pos rfl))
        replace e7 := Lib.hid e7
        go_wp2
        go_region
        all_goals go_wp2
        all_goals refine bodyPost_ret (v := .tuple #[.agg #[.int .u64 x, .int .i64 y], .agg #[.slice none 0 0, .int .i64 0]]) ?_ rfl ?_
        all_goals first | (focus (simp [results, Try.results31, go_sem, *]; done)) | (unfold OwnPost; rw [e6.out]; exact ⟨rfl, (by repeat (first | with_reducible refine Below.drew ?_ | with_reducible refine below_drewN ?_ | with_reducible refine Below.alloc_ ?_ _ | with_reducible refine Below.setCell ?_ (by first | (simp; done) | (simp; omega)) _ | with_reducible exact Below.refl _ _ | with_reducible exact hb_wa | with_reducible refine Below.on ?_ hb_wa | with_reducible exact hb_wx | with_reducible refine Below.on ?_ hb_wx | with_reducible exact hb_wb | with_reducible refine Below.on ?_ hb_wb | with_reducible exact hb_wr | with_reducible refine Below.on ?_ hb_wr ))⟩)
      · have hyb : (y != q) = true := bne_iff_ne.mpr hy
        replace e6 := Lib.hid (e6.trans (if_neg hy))
        replace e7 := Lib.hid e7
        go_wp2_with fail
        refine (NX.out wr (by repeat (first | with_reducible refine Below.drew ?_ | with_reducible refine below_drewN ?_ | with_reducible refine Below.alloc_ ?_ _ | with_reducible refine Below.setCell ?_ (by first | (simp; done) | (simp; omega)) _ | with_reducible exact Below.refl _ _ | with_reducible exact hb_wa | with_reducible refine Below.on ?_ hb_wa | with_reducible exact hb_wx | with_reducible refine Below.on ?_ hb_wx | with_reducible exact hb_wb | with_reducible refine Below.on ?_ hb_wb | with_reducible exact hb_wr | with_reducible refine Below.on ?_ hb_wr )) x y T e5 e4.out e6.out).mono ?_
        rintro e wc ⟨x', y', sp', ln', cd', k', rfl, hst', hk', hb_wc⟩
        have hc_wc := (bcell hb_wc).1
        have hf_wc := (bcell hb_wc).2
        replace hst' := Lib.hid hst'
        replace hk' := Lib.hid hk'
        go_wp2
        go_roundg k'
        case measure => have h_ := hk'.out; have h_' := e7.out; omega
        case rel =>
          have hs5 := hb_wc.size
          have hs6 : wb.heap.size < wc.heap.size := by omega
          have hs7 : wb.heap.size + 1 < wc.heap.size := by omega
          refine ⟨x', y', sp', ln', cd', ?_, ?_, ?_, ?_, ?_, ?_, ?_, ?_, ?_, ?_, ?_⟩
          all_goals first | (simp [*, World.cell?_setCell_same', World.cell?_setCell_other]; done) | skip
          · rcases hst'.out with ⟨e1, e2, e3, e4, e5, e6, e7⟩ | ⟨e1, e2, e3, e4, ⟨g, e5, e6, e7⟩, e8, e9⟩
            · exact .inl ⟨e1, e2, e3, e4, e5, e6, e7⟩
            · refine .inr ⟨e1, e2, e3, e4, ⟨g, e5, by omega, by simp [World.setCell]; omega⟩, ?_, e9⟩
              subst e5
              repeat (first | with_reducible refine LnkAt.setCell ?_ _ _ (by intro g n c h; simp at h ⊢; omega) | with_reducible exact e8)
          · exact (((((hB.trans (hb_wc.mono (by omega))).setCell (by simp) _).setCell (by simp) _).setCell (by simp) _).setCell (by simp) _)
          · simp [World.setCell]; omega
    · replace e8 := Lib.hid e8
      go_wp2
      go_region
      all_goals go_wp2
      all_goals refine bodyPost_ret (v := .tuple #[.agg #[.int .u64 0, .int .i64 0], .agg #[.slice (some ⟨g, 0, none⟩) 1 1, .int .i64 183]]) ?_ rfl ?_
      all_goals first | (focus (simp [results, Try.results31, go_sem, *]; done)) | skip
      all_goals unfold OwnPost
      all_goals refine ⟨g, rfl, ?_, by omega, by simp [World.setCell]; omega, (by repeat (first | with_reducible refine Below.drew ?_ | with_reducible refine below_drewN ?_ | with_reducible refine Below.alloc_ ?_ _ | with_reducible refine Below.setCell ?_ (by first | (simp; done) | (simp; omega)) _ | with_reducible exact Below.refl _ _ | with_reducible exact hb_wa | with_reducible refine Below.on ?_ hb_wa | with_reducible exact hb_wx | with_reducible refine Below.on ?_ hb_wx | with_reducible exact hb_wb | with_reducible refine Below.on ?_ hb_wb | with_reducible exact hb_wr | with_reducible refine Below.on ?_ hb_wr ))⟩
      all_goals (repeat (first | with_reducible refine LnkAt.drewN_ ?_ | with_reducible refine LnkAt.drew_ ?_ | with_reducible refine LnkAt.alloc_ ?_ | with_reducible refine LnkAt.setCell ?_ _ _ (by intro g n c h; simp at h ⊢; omega) | with_reducible exact e8.out))
end Go.Proofs.Ytehmbcpgendkjaa
