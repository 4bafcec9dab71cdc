import Derived.Test.YtehmbcpgendkjaaDoorGroups
namespace Go.Proofs.YtehmbcpgendkjaaDoor
open Go.RowKit
set_option linter.unusedSimpArgs false
set_option linter.unusedVariables false
/-- What the law's made answers: the group, or none; always true. -/
def MadePost (c : Cfg) (w : World) (e : Ending) (w' : World) : Prop :=
  (c.bad = -1 ∧ ∃ b, e = .returned (.tuple #[.pointer (some ⟨b, 0, none⟩), .bool true]) ∧ w.heap.size ≤ b ∧ GrpAt w' b c (2 * c.f + 1) ∧ Below w.heap.size w w') ∨
  (c.bad ≠ -1 ∧ e = .returned (.tuple #[.pointer none, .bool true]) ∧ Below w.heap.size w w')
set_option maxRecDepth 100000 in
set_option maxHeartbeats 1600000 in
theorem lmade_any (c : Cfg) (w : World) (ok : c.Ok) : Calls Tryd.prog 21 #[.agg #[.int .i64 c.f, .int .i64 c.mb, .int .u64 c.dl, .int .u64 c.wd, .int .u64 c.ev, .int .u64 c.bt, .int .u64 c.ep, .int .u64 c.em, .int .u64 c.mn, .int .u64 c.ms]] w (MadePost c w) := by
  go_enter Tryd.func21, Tryd.ntmps21
  go_wp2_with fail
  refine (new_any c _ ok).mono ?_
  rintro e wa (⟨hb, b, rfl, hlb, hg, hb_wa⟩ | ⟨k, hb, v, rfl, he, hb_wa⟩)
  · obtain ⟨⟨f1, f2⟩, _⟩ := Cfg.valid hb
    have HB := Lib.hid hb
    have HG := Lib.hid hg
    clear hb hg
    have hc_wa := (bcell hb_wa).1
    have hf_wa := (bcell hb_wa).2
    have hz_wa_0 : w.heap.size < wa.heap.size := by have h_ := hb_wa.size; (try simp at h_); omega
    go_wp2_with fail
    refine (refnew_any c _).mono ?_
    rintro e wb (⟨_, d, rfl, hld, hr, hb_wb⟩ | ⟨k, hk, _⟩)
    · clear hr
      have hc_wb := (bcell hb_wb).1
      have hf_wb := (bcell hb_wb).2
      have hz_wb_0 : w.heap.size < wb.heap.size := by have h_ := hb_wb.size; (try simp at h_); omega
      have ND : ∀ w1, Below wb.heap.size wb w1 → Calls Tryd.prog 22 #[.pointer (some ⟨b, 0, none⟩)] w1 fun e w' => e = .returned (.int .i64 (2 * c.f + 1)) ∧ Below w1.heap.size w1 w' := fun w1 h =>
        sameB (nodes_at b (2 * c.f + 1) w1 (((HG.out.below HG.out.lt hb_wb).below (Nat.lt_of_lt_of_le HG.out.lt hb_wb.size) h).nodes) (by omega))
      have QU : ∀ w1, Below wb.heap.size wb w1 → Calls Tryd.prog 24 #[.pointer (some ⟨b, 0, none⟩)] w1 fun e w' => e = .returned (.int .i64 (c.f + 1)) ∧ Below w1.heap.size w1 w' := fun w1 h =>
        sameB (quorum_at b (2 * c.f + 1) c.f w1 (((HG.out.below HG.out.lt hb_wb).below (Nat.lt_of_lt_of_le HG.out.lt hb_wb.size) h).nodes) (((HG.out.below HG.out.lt hb_wb).below (Nat.lt_of_lt_of_le HG.out.lt hb_wb.size) h).f) (by omega) (by omega) (by omega))
      have ND := Lib.hid ND
      have QU := Lib.hid QU
      have ew1 : IntKind.i64.wrap (2 * c.f) = 2 * c.f := by simp only [IntKind.wrap, IntKind.signed, IntKind.bits]; simp; omega
      have ew2 : IntKind.i64.wrap (2 * c.f + 1) = 2 * c.f + 1 := by simp only [IntKind.wrap, IntKind.signed, IntKind.bits]; simp; omega
      have ew3 : IntKind.i64.wrap (c.f + 1) = c.f + 1 := by simp only [IntKind.wrap, IntKind.signed, IntKind.bits]; simp; omega
      go_wp2
      refine wp_region_below (by kernel_rfl) (by kernel_rfl) ?_
      repeat first | go_big_quiet_skip | (go_big_quiet_want; go_big_quiet_op; go_big_quiet_on) | (go_big_quiet_want; rename_i K hK; apply quiet_mk; (focus (intro w1 hw1; have hc1 := (bcell hw1).1; have hf1 := (bcell hw1).2; go_simp; first | done | rfl | (first | (go_at_call 22; (refine (ND.out _ (Below.on (Below.alloc_ (Below.refl _ _) _) hw1)).mono ?_); rintro e w2 ⟨rfl, hb2⟩; exact ⟨rfl, (hw1.trans (hb2.mono hw1.size)).mono (by simp)⟩) | (go_at_call 24; (refine (QU.out _ (Below.on (Below.alloc_ (Below.refl _ _) _) hw1)).mono ?_); rintro e w2 ⟨rfl, hb2⟩; exact ⟨rfl, (hw1.trans (hb2.mono hw1.size)).mono (by simp)⟩)))); refine hK _ ?_; clear hK K; try simp only [Act.put, List.setIfInBounds_toArray, List.set_cons_zero, List.set_cons_succ])
      refine wpQuiet_nil ?_
      intro wx hb_wx
      have hc_wx := (bcell hb_wx).1
      have hf_wx := (bcell hb_wx).2
      go_wp2
      go_ret2
      exact .inl ⟨HB.out, b, by simp, by have h_ := hb_wa.size; simp at h_ hlb; omega, ((HG.out.below HG.out.lt hb_wb).below (Nat.lt_of_lt_of_le HG.out.lt hb_wb.size) ((by repeat (first | exact Below.refl _ _ | refine Below.alloc ?_ (by first | (simp; done) | (simp; omega)) _ | refine Below.drew ?_ | refine below_drewN ?_)))).below (Nat.lt_of_lt_of_le HG.out.lt (by have h_ := hb_wb.size; simp; omega)) hb_wx, (by repeat (first | exact Below.refl _ _ | exact hb_wa | refine Below.on ?_ hb_wa | exact hb_wb | refine Below.on ?_ hb_wb | exact hb_wx | refine Below.on ?_ hb_wx | refine Below.alloc_ ?_ _ | refine Below.drew ?_ | refine below_drewN ?_ | refine Below.setCell ?_ (by first | (simp; done) | (simp; omega)) _))⟩
    · exfalso
      have := HB.out
      omega
  · obtain ⟨q, rfl⟩ := he.form
    have HB := Lib.hid hb
    clear hb he
    have hc_wa := (bcell hb_wa).1
    have hf_wa := (bcell hb_wa).2
    have hz_wa_0 : w.heap.size < wa.heap.size := by have h_ := hb_wa.size; (try simp at h_); omega
    go_wp2_with fail
    refine (refnew_any c _).mono ?_
    rintro e wb (⟨hk, _⟩ | ⟨k', hk, g, rfl, hl, hb_wb⟩)
    · exact absurd HB.out (by rw [hk]; omega)
    · clear hk hl
      have hc_wb := (bcell hb_wb).1
      have hf_wb := (bcell hb_wb).2
      have hz_wb_0 : w.heap.size < wb.heap.size := by have h_ := hb_wb.size; (try simp at h_); omega
      go_wp2
      refine wp_region_below (by kernel_rfl) (by kernel_rfl) ?_
      repeat first | go_big_quiet_skip | (go_big_quiet_want; go_big_quiet_op; go_big_quiet_on) | (go_big_quiet_want; rename_i K hK; apply quiet_mk; (focus (intro w1 hw1; have hc1 := (bcell hw1).1; have hf1 := (bcell hw1).2; go_simp; first | done | rfl | (fail))); refine hK _ ?_; clear hK K; try simp only [Act.put, List.setIfInBounds_toArray, List.set_cons_zero, List.set_cons_succ])
      refine wpQuiet_nil ?_
      intro wx hb_wx
      have hc_wx := (bcell hb_wx).1
      have hf_wx := (bcell hb_wx).2
      go_wp2
      go_ret2
      exact .inr ⟨by rw [HB.out]; omega, by simp, (by repeat (first | exact Below.refl _ _ | exact hb_wa | refine Below.on ?_ hb_wa | exact hb_wb | refine Below.on ?_ hb_wb | exact hb_wx | refine Below.on ?_ hb_wx | refine Below.alloc_ ?_ _ | refine Below.drew ?_ | refine below_drewN ?_ | refine Below.setCell ?_ (by first | (simp; done) | (simp; omega)) _))⟩
end Go.Proofs.YtehmbcpgendkjaaDoor
