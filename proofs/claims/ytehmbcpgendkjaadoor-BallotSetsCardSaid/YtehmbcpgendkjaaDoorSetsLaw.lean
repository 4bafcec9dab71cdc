import Derived.Test.YtehmbcpgendkjaaDoorMaj
import Derived.Test.YtehmbcpgendkjaaDoorGroups
import Derived.Test.YtehmbcpgendkjaaDoorRange
namespace Go.Proofs.YtehmbcpgendkjaaDoor
open Go.RowKit Go.Shelf
attribute [local go_sem] Oper.semAt_some
set_option linter.unusedSimpArgs false
set_option linter.unusedVariables false
/-- Where the scan of a set for its next member ends. -/
theorem next_elem {s nx m x : Nat} (h1 : nx ≤ m) (h2 : m ≤ 32) (h3 : ∀ i, nx ≤ i → i < m → s.testBit i = false) (h4 : m = 32 ∨ s.testBit m = true) (h5 : (List.range nx).filter s.testBit ++ [x] <+: elems s) : m < 32 ∧ x = m := by
  have e1 : ∀ k, (List.range (nx + k)).filter s.testBit = (List.range nx).filter s.testBit ++ ((List.range k).map (nx + ·)).filter s.testBit := fun k => by
    rw [List.range_add, List.filter_append]
  obtain ⟨d, rfl⟩ : ∃ d, m = nx + d := ⟨m - nx, by omega⟩
  have e2 : ((List.range d).map (nx + ·)).filter s.testBit = [] := by
    rw [List.filter_eq_nil_iff]
    intro a ha
    obtain ⟨i, hi, rfl⟩ := List.mem_map.1 ha
    have := List.mem_range.1 hi
    rw [h3 _ (by omega) (by omega)]
    simp
  obtain ⟨r, hr⟩ := h5
  unfold elems at hr
  obtain ⟨k, hk⟩ : ∃ k, 32 = nx + d + k := ⟨32 - (nx + d), by omega⟩
  have e3 : (List.range 32).filter s.testBit = (List.range nx).filter s.testBit ++ ((List.range k).map (nx + d + ·)).filter s.testBit := by
    rw [hk, List.range_add, List.filter_append, e1 d, e2, List.append_nil]
  rw [e3, List.append_assoc, List.append_cancel_left_eq] at hr
  cases k with
  | zero => simp at hr
  | succ k =>
    refine ⟨by omega, ?_⟩
    rw [List.range_succ_eq_map] at hr
    rcases h4 with h4 | h4
    · omega
    · simp [List.filter_cons, h4] at hr
      exact hr.1
theorem next_take {s nx m : Nat} (h1 : nx ≤ m) (h3 : ∀ i, nx ≤ i → i < m → s.testBit i = false) (h4 : s.testBit m = true) : (List.range (m + 1)).filter s.testBit = (List.range nx).filter s.testBit ++ [m] := by
  obtain ⟨d, rfl⟩ : ∃ d, m = nx + d := ⟨m - nx, by omega⟩
  have e2 : ((List.range d).map (nx + ·)).filter s.testBit = [] := by
    rw [List.filter_eq_nil_iff]
    intro a ha
    obtain ⟨i, hi, rfl⟩ := List.mem_map.1 ha
    have := List.mem_range.1 hi
    rw [h3 _ (by omega) (by omega)]
    simp
  rw [List.range_succ, List.filter_append, List.range_add, List.filter_append, e2, List.append_nil]
  simp [List.filter_cons, h4]
theorem cell_set2 {W : World} {a b : Addr} {u v old : Value} (hab : a.block ≠ b.block) (h : W.cell? b = some old) : ((W.setCell a u).setCell b v).cell? b = some v :=
  World.cell?_setCell_same' _ _ _ (by rw [World.cell?_setCell_far _ _ _ _ hab, h]; rfl)
/-- What holds between two members' rounds: the next one to be told is nx, so many have been told; what lay ahead of the turn lies as it lay. -/
def SetsI (s : Nat) (tv : Int) (bt : Nat) (w1 : World) (pre : List (Fin 32)) (W : World) : Prop :=
  (∃ nx : Nat, nx ≤ 32 ∧ pre.map Fin.val = (List.range nx).filter s.testBit ∧ W.cell? ⟨bt + 1, 0, none⟩ = some (.int .i64 nx) ∧ W.frozen? ⟨bt + 1, 0, none⟩ = false ∧
    W.cell? ⟨bt + 1 + 1, 0, none⟩ = some (.int .i64 (pre.length : Nat)) ∧ W.frozen? ⟨bt + 1 + 1, 0, none⟩ = false ∧ W.cell? ⟨bt, 0, none⟩ = some (.int .i64 tv) ∧ W.frozen? ⟨bt, 0, none⟩ = false ∧
    (tv = 0 → pre.length ≤ 1)) ∧ Below bt w1 W
/-- How a round has left: a wrong member; or, in the first turn, the second member. -/
def SetsX (s : Nat) (tv : Int) (bt : Nat) (w1 : World) (c : Code) (pre : List (Fin 32)) (W : World) : Prop :=
  (c = .ret ∧ ¬ (pre.map Fin.val <+: elems s)) ∨ (c = .exit 2 ∧ tv = 0 ∧ pre.length = 2 ∧ W.cell? ⟨bt + 1 + 1, 0, none⟩ = some (.int .i64 2) ∧ W.cell? ⟨bt, 0, none⟩ = some (.int .i64 tv) ∧ W.frozen? ⟨bt, 0, none⟩ = false ∧ Below bt w1 W)
theorem setsI_own {s : Nat} {tv : Int} {bt B : Nat} {w1 : World} (h0 : bt ≤ w1.heap.size) (hB : bt ≤ B) : OwnFrom B (SetsI s tv bt w1) := by
  rintro pre A A' row ⟨⟨nx, h1, h2, k1, k2, k3, k4, k5, k6, k10⟩, hb⟩ hg hr
  have hr' : ∀ r, row = some r → ∃ o : Obj, A.heap[r]? = some o ∧ o.isCells = false := fun r e => (hr r e).2
  exact ⟨⟨nx, h1, h2, cell_kept k1 hg hr', (frozen_kept k1 hg hr').trans k2, cell_kept k3 hg hr', (frozen_kept k3 hg hr').trans k4, cell_kept k5 hg hr', (frozen_kept k5 hg hr').trans k6, k10⟩,
    hb.grown hg (Nat.le_trans h0 hb.size) (fun k e => Nat.le_trans hB (hr k e).1)⟩
theorem setsX_own {s : Nat} {tv : Int} {bt B : Nat} {w1 : World} (h0 : bt ≤ w1.heap.size) (hB : bt ≤ B) (c : Code) : OwnFrom B (SetsX s tv bt w1 c) := by
  rintro pre A A' row h hg hr
  have hr' : ∀ r, row = some r → ∃ o : Obj, A.heap[r]? = some o ∧ o.isCells = false := fun r e => (hr r e).2
  rcases h with h | ⟨h1, h2, h3, k1, k2, k3, hb⟩
  · exact .inl h
  · exact .inr ⟨h1, h2, h3, cell_kept k1 hg hr', cell_kept k2 hg hr', (frozen_kept k2 hg hr').trans k3, hb.grown hg (Nat.le_trans h0 hb.size) (fun k e => Nat.le_trans hB (hr k e).1)⟩
theorem fn_ne_nil (lb : Array Value) (w : World) : Sem.run Tryd.prog (binOp BinOp.eql 28 (.func (.func 49) #[] lb) .nilFunc) w = .ok (.bool false) w := by kernel_rfl
attribute [local go_sem] fn_ne_nil
set_option maxRecDepth 100000 in
set_option maxHeartbeats 3200000 in
theorem sets_yes (c : Cfg) (s t q : Int) (w : World) (ok : c.Ok) (hbad : c.bad = -1) (hT : Tab w) (hs : (Lit.int .u32 s).wf = true) (ht : (Lit.int .u32 t).wf = true) (hq : (Lit.int .i64 q).wf = true) :
    Calls Tryd.prog 3 #[.agg #[.int .i64 c.f, .int .i64 c.mb, .int .u64 c.dl, .int .u64 c.wd, .int .u64 c.ev, .int .u64 c.bt, .int .u64 c.ep, .int .u64 c.em, .int .u64 c.mn, .int .u64 c.ms], .int .u32 s, .int .u32 t, .int .i64 q] w fun e w' => e = .returned (.bool true) ∧ Below w.heap.size w w' := by
  obtain ⟨s, rfl⟩ : ∃ n : Nat, s = n := ⟨s.toNat, by have := (wf_u32 hs).1; omega⟩
  obtain ⟨t, rfl⟩ : ∃ n : Nat, t = n := ⟨t.toNat, by have := (wf_u32 ht).1; omega⟩
  have hs2 : s < 4294967296 := by have := (wf_u32 hs).2; omega
  have ht2 : t < 4294967296 := by have := (wf_u32 ht).2; omega
  have HT := Lib.hid hT
  clear hs ht hq hT
  replace hbad := Lib.hid hbad
  refine (callsIn_wide (n := 9)).1 ?_
  refine callsIn_of_wp_marks Tryd.func3 rfl trivial ?_ rfl
  simp only [Tryd.ntmps3, List.size_toArray, List.length_cons, List.length_nil, Nat.reduceAdd, Nat.reduceSub, Array.replicate_succ, Array.replicate_zero, List.push_toArray, List.append_toArray, List.nil_append, List.cons_append]
  refine wpIn_wide.2 ?_
  go_wp2_with fail
  refine (members_any s _).mono ?_
  rintro e w1 ⟨rfl, rfl⟩
  go_wp2_with fail
  refine (groups_any c _ ok).mono ?_
  rintro e wa (⟨hb, b, d, rfl, hlb, hg, hr, hb_wa⟩ | ⟨hb, rfl, hb_wa⟩)
  · obtain ⟨⟨f1, f2⟩, _⟩ := Cfg.valid hb
    replace hb := Lib.hid hb
    have HG := Lib.hid hg
    have HR := Lib.hid hr
    clear hg hr hlb
    have hc_wa := (bcell hb_wa).1
    have hf_wa := (bcell hb_wa).2
    have hz_wa_0 : w.heap.size < wa.heap.size := by have h_ := hb_wa.size; (try simp at h_); omega
    have hz_wa_1 : w.heap.size + 1 < wa.heap.size := by have h_ := hb_wa.size; (try simp at h_); omega
    have hz_wa_2 : w.heap.size + 1 + 1 < wa.heap.size := by have h_ := hb_wa.size; (try simp at h_); omega
    have hz_wa_3 : w.heap.size + 1 + 1 + 1 < wa.heap.size := by have h_ := hb_wa.size; (try simp at h_); omega
    go_wp2
    refine wp_region_below (by kernel_rfl) (by kernel_rfl) ?_
    repeat first | go_big_quiet_skip | (go_big_quiet_want; go_big_quiet_op; go_big_quiet_on) | (go_big_quiet_want; rename_i K hK; apply quiet_mk; (focus (intro w1 hw1; have hc1 := (bcell hw1).1; have hf1 := (bcell hw1).2; go_simp; first | done | rfl | (first | (go_at_call 11; (with_reducible refine (sameB (with_any s q _ hs2)).mono ?_); rintro e w2 ⟨rfl, hb2⟩; exact ⟨rfl, (hw1.trans (hb2.mono hw1.size)).mono (by simp)⟩) | (go_at_call 12; (with_reducible refine (sameB (rwith_any s q _ hs2)).mono ?_); rintro e w2 ⟨rfl, hb2⟩; exact ⟨rfl, (hw1.trans (hb2.mono hw1.size)).mono (by simp)⟩) | (go_at_call 13; (with_reducible refine (sameB (has_any s q _ hs2)).mono ?_); rintro e w2 ⟨rfl, hb2⟩; exact ⟨rfl, (hw1.trans (hb2.mono hw1.size)).mono (by simp)⟩) | (go_at_call 14; (with_reducible refine (sameB (rhas_any s q _ hs2)).mono ?_); rintro e w2 ⟨rfl, hb2⟩; exact ⟨rfl, (hw1.trans (hb2.mono hw1.size)).mono (by simp)⟩)))); refine hK _ ?_; clear hK K; try simp only [Act.put, List.setIfInBounds_toArray, List.set_cons_zero, List.set_cons_succ])
    refine wpQuiet_nil ?_
    intro wx hb_wx
    have hc_wx := (bcell hb_wx).1
    have hf_wx := (bcell hb_wx).2
    have hz_wx_0 : w.heap.size < wx.heap.size := by have h_ := hb_wx.size; (try simp at h_); omega
    have hz_wx_1 : w.heap.size + 1 < wx.heap.size := by have h_ := hb_wx.size; (try simp at h_); omega
    have hz_wx_2 : w.heap.size + 1 + 1 < wx.heap.size := by have h_ := hb_wx.size; (try simp at h_); omega
    have hz_wx_3 : w.heap.size + 1 + 1 + 1 < wx.heap.size := by have h_ := hb_wx.size; (try simp at h_); omega
    have HTX : Hid (Tab wx) := Lib.hid (HT.out.below (Nat.le_refl _) (by repeat (first | with_reducible refine Below.drew ?_ | with_reducible refine below_drewN ?_ | with_reducible refine Below.alloc_ ?_ _ | with_reducible refine Below.setCell ?_ (by first | (simp; done) | (simp; omega)) _ | with_reducible exact Below.refl _ _ | with_reducible exact hb_wa | with_reducible refine Below.on ?_ hb_wa | with_reducible exact hb_wx | with_reducible refine Below.on ?_ hb_wx )))
    go_wp2
    refine wp_region_below (by kernel_rfl) (by kernel_rfl) ?_
    repeat first | go_big_quiet_skip | (go_big_quiet_want; go_big_quiet_op; go_big_quiet_on) | (go_big_quiet_want; rename_i K hK; apply quiet_mk; (focus (intro w1 hw1; have hc1 := (bcell hw1).1; have hf1 := (bcell hw1).2; go_simp; first | done | rfl | (first | (go_at_call 15; (refine (count_any s _ hs2 (HTX.out.below (Nat.le_refl _) hw1)).mono ?_); rintro e w2 ⟨rfl, hb2⟩; exact ⟨rfl, (hw1.trans (hb2.mono hw1.size)).mono (by simp)⟩) | (go_at_call 16; (with_reducible refine (sameB (rcount_any s _ hs2)).mono ?_); rintro e w2 ⟨rfl, hb2⟩; exact ⟨rfl, (hw1.trans (hb2.mono hw1.size)).mono (by simp)⟩) | (go_at_call 17; (refine (cross_any s t _ hs2 ht2 (HTX.out.below (Nat.le_refl _) hw1)).mono ?_); rintro e w2 ⟨rfl, hb2⟩; exact ⟨rfl, (hw1.trans (hb2.mono hw1.size)).mono (by simp)⟩) | (go_at_call 18; (with_reducible refine (sameB (rcross_any s t _ hs2 ht2)).mono ?_); rintro e w2 ⟨rfl, hb2⟩; exact ⟨rfl, (hw1.trans (hb2.mono hw1.size)).mono (by simp)⟩)))); refine hK _ ?_; clear hK K; try simp only [Act.put, List.setIfInBounds_toArray, List.set_cons_zero, List.set_cons_succ])
    refine wpQuiet_nil ?_
    intro wy hb_wy
    have hc_wy := (bcell hb_wy).1
    have hf_wy := (bcell hb_wy).2
    have hz_wy_0 : w.heap.size < wy.heap.size := by have h_ := hb_wy.size; (try simp at h_); omega
    have hz_wy_1 : w.heap.size + 1 < wy.heap.size := by have h_ := hb_wy.size; (try simp at h_); omega
    have hz_wy_2 : w.heap.size + 1 + 1 < wy.heap.size := by have h_ := hb_wy.size; (try simp at h_); omega
    have hz_wy_3 : w.heap.size + 1 + 1 + 1 < wy.heap.size := by have h_ := hb_wy.size; (try simp at h_); omega
    have HTY : Hid (Tab wy) := Lib.hid (HTX.out.below (Nat.le_refl _) hb_wy)
    have HGY : Hid (GrpAt wy b c (2 * c.f + 1)) := Lib.hid (HG.out.below HG.out.lt (by repeat (first | with_reducible refine Below.drew ?_ | with_reducible refine below_drewN ?_ | with_reducible refine Below.alloc_ ?_ _ | with_reducible refine Below.setCell ?_ (by first | (simp; done) | (simp; omega)) _ | with_reducible exact Below.refl _ _ | with_reducible exact hb_wx | with_reducible refine Below.on ?_ hb_wx | with_reducible exact hb_wy | with_reducible refine Below.on ?_ hb_wy )))
    have HRY : Hid (RefAt wy d c) := Lib.hid (HR.out.below HR.out.lt (by repeat (first | with_reducible refine Below.drew ?_ | with_reducible refine below_drewN ?_ | with_reducible refine Below.alloc_ ?_ _ | with_reducible refine Below.setCell ?_ (by first | (simp; done) | (simp; omega)) _ | with_reducible exact Below.refl _ _ | with_reducible exact hb_wx | with_reducible refine Below.on ?_ hb_wx | with_reducible exact hb_wy | with_reducible refine Below.on ?_ hb_wy )))
    go_wp2
    refine wp_region_below (by kernel_rfl) (by kernel_rfl) ?_
    repeat first | go_big_quiet_skip | (go_big_quiet_want; go_big_quiet_op; go_big_quiet_on) | (go_big_quiet_want; rename_i K hK; apply quiet_mk; (focus (intro w1 hw1; have hc1 := (bcell hw1).1; have hf1 := (bcell hw1).2; go_simp; first | done | rfl | (first | (go_at_call 19; (refine (majority_at b c s _ (HGY.out.below HGY.out.lt hw1) f1 f2 hs2 (HTY.out.below (Nat.le_refl _) hw1)).mono ?_); rintro e w2 ⟨rfl, hb2⟩; exact ⟨rfl, (hw1.trans (hb2.mono hw1.size)).mono (by simp)⟩) | (go_at_call 20; (refine (sameB (rmajority_at d c s _ (HRY.out.below HRY.out.lt hw1).f f1 f2 hs2)).mono ?_); rintro e w2 ⟨rfl, hb2⟩; exact ⟨rfl, (hw1.trans (hb2.mono hw1.size)).mono (by simp)⟩)))); refine hK _ ?_; clear hK K; try simp only [Act.put, List.setIfInBounds_toArray, List.set_cons_zero, List.set_cons_succ])
    refine wpQuiet_nil ?_
    intro wz hb_wz
    have hc_wz := (bcell hb_wz).1
    have hf_wz := (bcell hb_wz).2
    have hz_wz_0 : w.heap.size < wz.heap.size := by have h_ := hb_wz.size; (try simp at h_); omega
    have hz_wz_1 : w.heap.size + 1 < wz.heap.size := by have h_ := hb_wz.size; (try simp at h_); omega
    have hz_wz_2 : w.heap.size + 1 + 1 < wz.heap.size := by have h_ := hb_wz.size; (try simp at h_); omega
    have hz_wz_3 : w.heap.size + 1 + 1 + 1 < wz.heap.size := by have h_ := hb_wz.size; (try simp at h_); omega
    have HTZ : Hid (Tab wz) := Lib.hid (HTY.out.below (Nat.le_refl _) hb_wz)
    go_wp2
    refine wp_loop_rounds 3 ?_
    rw [rounds_succ]
    go_wp2
    have kS : wz.cell? ⟨w.heap.size + 1, 0, none⟩ = some (.int .u32 s) := by go_simp
    have kR : wz.cell? ⟨w.heap.size + 1 + 1, 0, none⟩ = some (.bool false) := by go_simp
    have fR : wz.frozen? ⟨w.heap.size + 1 + 1, 0, none⟩ = false := by go_simp
    have kB : wz.cell? ⟨w.heap.size + 1 + 1 + 1, 0, none⟩ = some (.int .u32 s) := by go_simp
    obtain ⟨b0, hb0⟩ : ∃ b0, b0 = w.heap.size := ⟨_, rfl⟩
    obtain ⟨b1, hb1⟩ : ∃ b1, b1 = wz.heap.size := ⟨_, rfl⟩
    rw [← hb0] at kS kR fR kB
    have hBz : Hid (Below b0 w wz) := Lib.hid (by rw [hb0]; exact (by repeat (first | with_reducible refine Below.drew ?_ | with_reducible refine below_drewN ?_ | with_reducible refine Below.alloc_ ?_ _ | with_reducible refine Below.setCell ?_ (by first | (simp; done) | (simp; omega)) _ | with_reducible exact Below.refl _ _ | with_reducible exact hb_wa | with_reducible refine Below.on ?_ hb_wa | with_reducible exact hb_wx | with_reducible refine Below.on ?_ hb_wx | with_reducible exact hb_wy | with_reducible refine Below.on ?_ hb_wy | with_reducible exact hb_wz | with_reducible refine Below.on ?_ hb_wz )))
    have hlt : b0 + 1 + 1 + 1 < b1 := by omega
    have htab : 0 < b0 := by have h_ := HT.out.1; omega
    simp only [← hb0, ← hb1]
    clear hc_wa hf_wa hc_wx hf_wx hc_wz hf_wz
    have hw0 : b0 ≤ w.heap.size := by omega
    have hw0' : w.heap.size ≤ b0 := by omega
    have hw1 : b1 ≤ wz.heap.size := by omega
    have hw1' : wz.heap.size ≤ b1 := by omega
    replace hb0 := Lib.hid hb0
    replace hb1 := Lib.hid hb1
    have e0 : ¬ b0 = b1 := by omega
    have e1 : ¬ b0 + 1 = b1 := by omega
    have e2 : ¬ b0 + 1 + 1 = b1 := by omega
    have e3 : ¬ b1 = b0 := by omega
    have e4 : ¬ b1 = b0 + 1 := by omega
    have e5 : ¬ b1 = b0 + 1 + 1 := by omega
    refine wp_range_members (bs := b0 + 1 + 1 + 1) (s := s) (n₀ := b1) rfl hs2 ?_ ?_ ?_ ?_ (Nat.lt_of_lt_of_le htab (by omega)) (SetsI s 0 b1 wz) (SetsX s 0 b1 wz) ?_ ?_ ?_
      (fun A x => (A.setIfInBounds 79 (.int .i64 (x.val : Int))).setIfInBounds 16 (.int .i64 (x.val : Int))) ?_ ?_ ?_ ?_
    · simp; omega
    · simp; omega
    · exact cell_alloc1 _ (cell_alloc1 _ (cell_alloc1 _ kB))
    · exact (HTZ.out.below (Nat.le_refl _) (by repeat (first | with_reducible refine Below.drew ?_ | with_reducible refine below_drewN ?_ | with_reducible refine Below.alloc_ ?_ _ | with_reducible refine Below.setCell ?_ (by first | (simp; done) | (simp; omega)) _ | with_reducible exact Below.refl _ _ )))
    · exact setsI_own (by omega) (by simp; omega)
    · exact setsX_own (by omega) (by simp; omega)
    · (rw [hb1.out]; exact ⟨⟨0, by omega, rfl, by go_simp, by go_simp, by go_simp, by go_simp, by go_simp, by go_simp, fun _ => by simp⟩, (by repeat (first | with_reducible refine Below.drew ?_ | with_reducible refine below_drewN ?_ | with_reducible refine Below.alloc_ ?_ _ | with_reducible refine Below.setCell ?_ (by first | (simp; done) | (simp; omega)) _ | with_reducible exact Below.refl _ _ ))⟩)
    · intro l x W K hK
      simp only [List.setIfInBounds_toArray, List.set_cons_zero, List.set_cons_succ] at hK ⊢
      gi_wp2
      exact hK
    · rintro l pre x W ⟨⟨nx, h1, h2, k1, k2, k3, k4, k5, k6, k10⟩, hB⟩ hlen
      simp only [List.setIfInBounds_toArray, List.set_cons_zero, List.set_cons_succ]
      replace h2 := Lib.hid h2
      replace k10 := Lib.hid k10
      gi_wp2
      gi_loopg [] (32 - nx) (fun k wr => ∃ m : Nat, m + k = 32 ∧ nx ≤ m ∧ (∀ i, nx ≤ i → i < m → s.testBit i = false) ∧ wr.cell? ⟨b1 + 1, 0, none⟩ = some (.int .i64 m) ∧ wr.frozen? ⟨b1 + 1, 0, none⟩ = false ∧
        wr.cell? ⟨b1 + 1 + 1, 0, none⟩ = some (.int .i64 (pre.length : Nat)) ∧ wr.frozen? ⟨b1 + 1 + 1, 0, none⟩ = false ∧ wr.cell? ⟨b1, 0, none⟩ = some (.int .i64 0) ∧ wr.frozen? ⟨b1, 0, none⟩ = false ∧
        KeepsOthers W wr ∧ Below b1 W wr)
      case atStart => exact ⟨nx, by omega, Nat.le_refl _, fun i hi hj => by omega, k1, k2, k3, k4, k5, k6, KeepsOthers.refl _, Below.refl _ _⟩
      case round =>
        obtain ⟨m, g0, g1, g2, g3, g4, g5, g6, g7, g8, hKO, hBW⟩ := hrel
        have g9 : wr.cell? ⟨b0 + 1, 0, none⟩ = some (.int .u32 s) := ((hB.trans hBW).cell (p := ⟨b0 + 1, 0, none⟩) (by simp; omega)).trans kS
        have g10 : wr.cell? ⟨b0 + 1 + 1, 0, none⟩ = some (.bool false) := ((hB.trans hBW).cell (p := ⟨b0 + 1 + 1, 0, none⟩) (by simp; omega)).trans kR
        have g11 : wr.frozen? ⟨b0 + 1 + 1, 0, none⟩ = false := ((hB.trans hBW).frozen (p := ⟨b0 + 1 + 1, 0, none⟩) (by simp; omega)).trans fR
        replace g2 := Lib.hid g2
        replace hKO := Lib.hid hKO
        replace hBW := Lib.hid hBW
        by_cases hm : m < 32
        · have H := rhas_any s m wr hs2
          rw [hasB_bit hm] at H
          by_cases hbit : s.testBit m = true
          · rw [hbit] at H
            replace H := Lib.hid H
            replace hbit := Lib.hid hbit
            gi_wp2_with fail
            refine ⟨trivial, (CallsIn.inRound l (callsIn_wide.2 H.out)).mono ?_⟩
            rintro e w1 ⟨rfl, rfl⟩
            by_cases hx : x.val = m
            · have hx31 : (m : Int) ≤ 31 := by omega
              have hxm : ((x.val : Int) != (m : Int)) = false := by rw [hx]; simp
              have hx31' : ¬ 31 < (x.val : Int) := by omega
              have hnew : Hid ((pre ++ [x]).map Fin.val = (List.range (m + 1)).filter s.testBit) := Lib.hid (by rw [List.map_append, h2.out, next_take g1 g2.out hbit.out, List.map_cons, List.map_nil, hx])
              have hl2 : Hid (((pre ++ [x]).length : Int) = (pre.length : Int) + 1) := Lib.hid (by simp)
              by_cases hl : pre.length = 1
              · have hg : ((pre.length : Int) + 1 == 2) = true := by rw [hl]; rfl
                gi_wp2
                exact ⟨(hKO.out.trans (KeepsOthers.setCell _ _ _)).trans (KeepsOthers.setCell _ _ _), .inr ⟨rfl, rfl, by simp [hl],
                  (by first | exact cell_set2 (by first | (simp; done) | (simp; omega)) g5 | exact (cell_set2 (by first | (simp; done) | (simp; omega)) g5).trans (by rw [hl]; rfl)),
                  (World.cell?_setCell_far _ _ _ _ (by first | (simp; done) | (simp; omega))).trans ((World.cell?_setCell_far _ _ _ _ (by first | (simp; done) | (simp; omega))).trans g7), by rw [World.frozen?_setCell, World.frozen?_setCell]; exact g8,
                  ((hB.trans hBW.out).setCell (p := ⟨b1 + 1, 0, none⟩) (by simp) _).setCell (p := ⟨b1 + 1 + 1, 0, none⟩) (by simp; omega) _⟩⟩
              · have hl0 : pre.length = 0 := by have h_ := k10.out (by first | trivial | rfl); omega
                have hg : ((pre.length : Int) + 1 == 2) = false := by rw [hl0]; rfl
                replace hl0 := Lib.hid hl0
                clear hl
                gi_wp2
                exact ⟨(hKO.out.trans (KeepsOthers.setCell _ _ _)).trans (KeepsOthers.setCell _ _ _), (hBW.out.setCell (p := ⟨b1 + 1, 0, none⟩) (by simp) _).setCell (p := ⟨b1 + 1 + 1, 0, none⟩) (by simp; omega) _,
                  ⟨m + 1, by omega, hnew.out, (World.cell?_setCell_far _ _ _ _ (by first | (simp; done) | (simp; omega))).trans (World.cell?_setCell_same' _ _ _ (by rw [g3]; rfl)), by rw [World.frozen?_setCell, World.frozen?_setCell]; exact g4,
                    by rw [hl2.out]; exact cell_set2 (by first | (simp; done) | (simp; omega)) g5, by rw [World.frozen?_setCell, World.frozen?_setCell]; exact g6,
                    (World.cell?_setCell_far _ _ _ _ (by first | (simp; done) | (simp; omega))).trans ((World.cell?_setCell_far _ _ _ _ (by first | (simp; done) | (simp; omega))).trans g7), by rw [World.frozen?_setCell, World.frozen?_setCell]; exact g8,
                    by intro h_; first | (have h_' := hl0.out; rw [List.length_append]; simp only [List.length_cons, List.length_nil]; omega) | cases h_⟩, ((hB.trans hBW.out).setCell (p := ⟨b1 + 1, 0, none⟩) (by simp) _).setCell (p := ⟨b1 + 1 + 1, 0, none⟩) (by simp; omega) _⟩
            · have hxm : ((x.val : Int) != (m : Int)) = true := by simp; omega
              have hpre : Hid (¬ ((pre ++ [x]).map Fin.val <+: elems s)) := Lib.hid (fun h => by
                rw [List.map_append, h2.out] at h
                have := next_elem g1 (by omega) g2.out (.inr hbit.out) h
                exact hx this.2)
              gi_wp2
              exact ⟨hKO.out.trans (KeepsOthers.setCell _ _ _), .inl ⟨rfl, hpre.out⟩⟩
          · have hbit' : s.testBit m = false := by simpa using hbit
            rw [hbit'] at H
            replace H := Lib.hid H
            replace hbit := Lib.hid hbit'
            clear hbit'
            gi_wp2_with fail
            refine ⟨trivial, (CallsIn.inRound l (callsIn_wide.2 H.out)).mono ?_⟩
            rintro e w1 ⟨rfl, rfl⟩
            gi_wp2
            gi_roundg (32 - (m + 1))
            case measure => omega
            case rel =>
              exact ⟨m + 1, by omega, by omega, fun i hi hj => by
                  by_cases e : i = m
                  · rw [e]; exact hbit.out
                  · exact g2.out i hi (by omega),
                World.cell?_setCell_same' _ _ _ (by rw [g3]; rfl), by rw [World.frozen?_setCell]; exact g4,
                (World.cell?_setCell_far _ _ _ _ (by first | (simp; done) | (simp; omega))).trans g5, by rw [World.frozen?_setCell]; exact g6,
                (World.cell?_setCell_far _ _ _ _ (by first | (simp; done) | (simp; omega))).trans g7, by rw [World.frozen?_setCell]; exact g8,
                hKO.out.trans (KeepsOthers.setCell _ _ _), hBW.out.setCell (p := ⟨b1 + 1, 0, none⟩) (by simp) _⟩
        · obtain rfl : m = 32 := by omega
          replace g3 : wr.cell? ⟨b1 + 1, 0, none⟩ = some (.int .i64 32) := g3
          have hd32 : decide ((32 : Int) < 32) = false := rfl
          clear hm g0
          have hxm : ((x.val : Int) != (32 : Int)) = true := by have := x.isLt; simp; omega
          have hpre : Hid (¬ ((pre ++ [x]).map Fin.val <+: elems s)) := Lib.hid (fun h => by
            rw [List.map_append, h2.out] at h
            have := next_elem g1 (by omega) g2.out (.inl rfl) h
            omega)
          gi_wp2
          refine ⟨trivial, ?_⟩
          gi_wp2
          exact ⟨hKO.out.trans (KeepsOthers.setCell _ _ _), .inl ⟨rfl, hpre.out⟩⟩
    · rintro D ys W hD hys ⟨⟨nx, h1, h2, k1, k2, k3, k4, k5, k6, k10⟩, hB⟩ hK
      have hce : (ys.length : Int) = (cardB s : Nat) := by
        have h_ := congrArg List.length hys
        simp at h_
        rw [h_]; rfl
      have hc1 : ((cardB s : Nat) : Int) ≤ 1 := by have h_ := k10 rfl; omega
      rw [hce] at k3
      clear hys h1 h2 k1 k2 k10 hce
      replace kS : W.cell? ⟨b0 + 1, 0, none⟩ = some (.int .u32 s) := (hB.cell (p := ⟨b0 + 1, 0, none⟩) (by simp; omega)).trans kS
      replace kR : W.cell? ⟨b0 + 1 + 1, 0, none⟩ = some (.bool false) := (hB.cell (p := ⟨b0 + 1 + 1, 0, none⟩) (by simp; omega)).trans kR
      replace fR : W.frozen? ⟨b0 + 1 + 1, 0, none⟩ = false := (hB.frozen (p := ⟨b0 + 1 + 1, 0, none⟩) (by simp; omega)).trans fR
      replace kB : W.cell? ⟨b0 + 1 + 1 + 1, 0, none⟩ = some (.int .u32 s) := (hB.cell (p := ⟨b0 + 1 + 1 + 1, 0, none⟩) (by simp; omega)).trans kB
      have HTW : Hid (Tab W) := Lib.hid (HTZ.out.below hw1' hB)
      have hBW0 : Hid (Below b0 w W) := Lib.hid (hBz.out.trans (hB.mono (by omega)))
      have hWs := hB.size
      have hDs : D < W.heap.size := (Array.getElem?_eq_some_iff.1 hK).1
      replace hK := Lib.hid hK
      clear hB
      go_wp2_with fail
      refine (rcount_any s _ hs2).mono ?_
      rintro e w1 ⟨rfl, rfl⟩
      go_wp2
      clear k3 k4 k5 k6 hc1
      rw [rounds_succ]
      go_wp2
      obtain ⟨b2, hb2⟩ : ∃ b2, b2 = W.heap.size := ⟨_, rfl⟩
      simp only [← hb2]
      have hw2 : b2 ≤ W.heap.size := by omega
      have hw2' : W.heap.size ≤ b2 := by omega
      have hlt2 : b0 + 1 + 1 + 1 < b2 := by omega
      replace hb2 := Lib.hid hb2
      have e0 : ¬ b0 = b2 := by omega
      have e1 : ¬ b0 + 1 = b2 := by omega
      have e2 : ¬ b0 + 1 + 1 = b2 := by omega
      have e3 : ¬ b2 = b0 := by omega
      have e4 : ¬ b2 = b0 + 1 := by omega
      have e5 : ¬ b2 = b0 + 1 + 1 := by omega
      refine wp_range_members (bs := b0 + 1 + 1 + 1) (s := s) (n₀ := b2) rfl hs2 ?_ ?_ ?_ ?_ (Nat.lt_of_lt_of_le htab (by omega)) (SetsI s 1 b2 W) (SetsX s 1 b2 W) ?_ ?_ ?_
        (fun A x => (A.setIfInBounds 79 (.int .i64 (x.val : Int))).setIfInBounds 16 (.int .i64 (x.val : Int))) ?_ ?_ ?_ ?_
      · simp; omega
      · simp; omega
      · exact cell_alloc1 _ (cell_alloc1 _ (cell_alloc1 _ kB))
      · exact (HTW.out.below (Nat.le_refl _) (by repeat (first | with_reducible refine Below.drew ?_ | with_reducible refine below_drewN ?_ | with_reducible refine Below.alloc_ ?_ _ | with_reducible refine Below.setCell ?_ (by first | (simp; done) | (simp; omega)) _ | with_reducible exact Below.refl _ _ )))
      · exact setsI_own (by omega) (by simp; omega)
      · exact setsX_own (by omega) (by simp; omega)
      · (rw [hb2.out]; exact ⟨⟨0, by omega, rfl, by go_simp, by go_simp, by go_simp, by go_simp, by go_simp, by go_simp, fun h_ => by cases h_⟩, (by repeat (first | with_reducible refine Below.drew ?_ | with_reducible refine below_drewN ?_ | with_reducible refine Below.alloc_ ?_ _ | with_reducible refine Below.setCell ?_ (by first | (simp; done) | (simp; omega)) _ | with_reducible exact Below.refl _ _ ))⟩)
      · intro l x W K hK
        simp only [List.setIfInBounds_toArray, List.set_cons_zero, List.set_cons_succ] at hK ⊢
        gi_wp2
        exact hK
      · rintro l pre x W ⟨⟨nx, h1, h2, k1, k2, k3, k4, k5, k6, k10⟩, hB⟩ hlen
        simp only [List.setIfInBounds_toArray, List.set_cons_zero, List.set_cons_succ]
        replace h2 := Lib.hid h2
        replace k10 := Lib.hid k10
        gi_wp2
        gi_loopg [] (32 - nx) (fun k wr => ∃ m : Nat, m + k = 32 ∧ nx ≤ m ∧ (∀ i, nx ≤ i → i < m → s.testBit i = false) ∧ wr.cell? ⟨b2 + 1, 0, none⟩ = some (.int .i64 m) ∧ wr.frozen? ⟨b2 + 1, 0, none⟩ = false ∧
          wr.cell? ⟨b2 + 1 + 1, 0, none⟩ = some (.int .i64 (pre.length : Nat)) ∧ wr.frozen? ⟨b2 + 1 + 1, 0, none⟩ = false ∧ wr.cell? ⟨b2, 0, none⟩ = some (.int .i64 1) ∧ wr.frozen? ⟨b2, 0, none⟩ = false ∧
          KeepsOthers W wr ∧ Below b2 W wr)
        case atStart => exact ⟨nx, by omega, Nat.le_refl _, fun i hi hj => by omega, k1, k2, k3, k4, k5, k6, KeepsOthers.refl _, Below.refl _ _⟩
        case round =>
          obtain ⟨m, g0, g1, g2, g3, g4, g5, g6, g7, g8, hKO, hBW⟩ := hrel
          have g9 : wr.cell? ⟨b0 + 1, 0, none⟩ = some (.int .u32 s) := ((hB.trans hBW).cell (p := ⟨b0 + 1, 0, none⟩) (by simp; omega)).trans kS
          have g10 : wr.cell? ⟨b0 + 1 + 1, 0, none⟩ = some (.bool false) := ((hB.trans hBW).cell (p := ⟨b0 + 1 + 1, 0, none⟩) (by simp; omega)).trans kR
          have g11 : wr.frozen? ⟨b0 + 1 + 1, 0, none⟩ = false := ((hB.trans hBW).frozen (p := ⟨b0 + 1 + 1, 0, none⟩) (by simp; omega)).trans fR
          replace g2 := Lib.hid g2
          replace hKO := Lib.hid hKO
          replace hBW := Lib.hid hBW
          by_cases hm : m < 32
          · have H := rhas_any s m wr hs2
            rw [hasB_bit hm] at H
            by_cases hbit : s.testBit m = true
            · rw [hbit] at H
              replace H := Lib.hid H
              replace hbit := Lib.hid hbit
              gi_wp2_with fail
              refine ⟨trivial, (CallsIn.inRound l (callsIn_wide.2 H.out)).mono ?_⟩
              rintro e w1 ⟨rfl, rfl⟩
              by_cases hx : x.val = m
              · have hx31 : (m : Int) ≤ 31 := by omega
                have hxm : ((x.val : Int) != (m : Int)) = false := by rw [hx]; simp
                have hx31' : ¬ 31 < (x.val : Int) := by omega
                have hnew : Hid ((pre ++ [x]).map Fin.val = (List.range (m + 1)).filter s.testBit) := Lib.hid (by rw [List.map_append, h2.out, next_take g1 g2.out hbit.out, List.map_cons, List.map_nil, hx])
                have hl2 : Hid (((pre ++ [x]).length : Int) = (pre.length : Int) + 1) := Lib.hid (by simp)
                have hl0 : Hid True := Lib.hid trivial
                gi_wp2
                exact ⟨(hKO.out.trans (KeepsOthers.setCell _ _ _)).trans (KeepsOthers.setCell _ _ _), (hBW.out.setCell (p := ⟨b2 + 1, 0, none⟩) (by simp) _).setCell (p := ⟨b2 + 1 + 1, 0, none⟩) (by simp; omega) _,
                  ⟨m + 1, by omega, hnew.out, (World.cell?_setCell_far _ _ _ _ (by first | (simp; done) | (simp; omega))).trans (World.cell?_setCell_same' _ _ _ (by rw [g3]; rfl)), by rw [World.frozen?_setCell, World.frozen?_setCell]; exact g4,
                    by rw [hl2.out]; exact cell_set2 (by first | (simp; done) | (simp; omega)) g5, by rw [World.frozen?_setCell, World.frozen?_setCell]; exact g6,
                    (World.cell?_setCell_far _ _ _ _ (by first | (simp; done) | (simp; omega))).trans ((World.cell?_setCell_far _ _ _ _ (by first | (simp; done) | (simp; omega))).trans g7), by rw [World.frozen?_setCell, World.frozen?_setCell]; exact g8,
                    by intro h_; first | (have h_' := hl0.out; rw [List.length_append]; simp only [List.length_cons, List.length_nil]; omega) | cases h_⟩, ((hB.trans hBW.out).setCell (p := ⟨b2 + 1, 0, none⟩) (by simp) _).setCell (p := ⟨b2 + 1 + 1, 0, none⟩) (by simp; omega) _⟩
              · have hxm : ((x.val : Int) != (m : Int)) = true := by simp; omega
                have hpre : Hid (¬ ((pre ++ [x]).map Fin.val <+: elems s)) := Lib.hid (fun h => by
                  rw [List.map_append, h2.out] at h
                  have := next_elem g1 (by omega) g2.out (.inr hbit.out) h
                  exact hx this.2)
                gi_wp2
                exact ⟨hKO.out.trans (KeepsOthers.setCell _ _ _), .inl ⟨rfl, hpre.out⟩⟩
            · have hbit' : s.testBit m = false := by simpa using hbit
              rw [hbit'] at H
              replace H := Lib.hid H
              replace hbit := Lib.hid hbit'
              clear hbit'
              gi_wp2_with fail
              refine ⟨trivial, (CallsIn.inRound l (callsIn_wide.2 H.out)).mono ?_⟩
              rintro e w1 ⟨rfl, rfl⟩
              gi_wp2
              gi_roundg (32 - (m + 1))
              case measure => omega
              case rel =>
                exact ⟨m + 1, by omega, by omega, fun i hi hj => by
                    by_cases e : i = m
                    · rw [e]; exact hbit.out
                    · exact g2.out i hi (by omega),
                  World.cell?_setCell_same' _ _ _ (by rw [g3]; rfl), by rw [World.frozen?_setCell]; exact g4,
                  (World.cell?_setCell_far _ _ _ _ (by first | (simp; done) | (simp; omega))).trans g5, by rw [World.frozen?_setCell]; exact g6,
                  (World.cell?_setCell_far _ _ _ _ (by first | (simp; done) | (simp; omega))).trans g7, by rw [World.frozen?_setCell]; exact g8,
                  hKO.out.trans (KeepsOthers.setCell _ _ _), hBW.out.setCell (p := ⟨b2 + 1, 0, none⟩) (by simp) _⟩
          · obtain rfl : m = 32 := by omega
            replace g3 : wr.cell? ⟨b2 + 1, 0, none⟩ = some (.int .i64 32) := g3
            have hd32 : decide ((32 : Int) < 32) = false := rfl
            clear hm g0
            have hxm : ((x.val : Int) != (32 : Int)) = true := by have := x.isLt; simp; omega
            have hpre : Hid (¬ ((pre ++ [x]).map Fin.val <+: elems s)) := Lib.hid (fun h => by
              rw [List.map_append, h2.out] at h
              have := next_elem g1 (by omega) g2.out (.inl rfl) h
              omega)
            gi_wp2
            refine ⟨trivial, ?_⟩
            gi_wp2
            exact ⟨hKO.out.trans (KeepsOthers.setCell _ _ _), .inl ⟨rfl, hpre.out⟩⟩
      · rintro D2 ys W2 hD2 hys ⟨⟨nx, h1, h2, k1, k2, k3, k4, k5, k6, k10⟩, hB⟩ hK2
        have hce : (ys.length : Int) = (cardB s : Nat) := by
          have h_ := congrArg List.length hys
          simp at h_
          rw [h_]; rfl
        rw [hce] at k3
        clear hys h1 h2 k1 k2 k10 hce
        replace kS : W2.cell? ⟨b0 + 1, 0, none⟩ = some (.int .u32 s) := (hB.cell (p := ⟨b0 + 1, 0, none⟩) (by simp; omega)).trans kS
        replace kR : W2.cell? ⟨b0 + 1 + 1, 0, none⟩ = some (.bool false) := (hB.cell (p := ⟨b0 + 1 + 1, 0, none⟩) (by simp; omega)).trans kR
        replace fR : W2.frozen? ⟨b0 + 1 + 1, 0, none⟩ = false := (hB.frozen (p := ⟨b0 + 1 + 1, 0, none⟩) (by simp; omega)).trans fR
        have hB2 : Hid (Below b0 w W2) := Lib.hid (hBW0.out.trans (hB.mono (by omega)))
        have hKW : Hid (W2.heap[D]? = some (.deferred (some []))) := Lib.hid ((hB.block D (by omega)).trans hK.out)
        have hWs2 := hB.size
        have l1 : b0 + 1 < W2.heap.size := by omega
        have l2 : b0 + 1 + 1 < W2.heap.size := by omega
        have l3 : ¬ b0 + 1 + 1 = W2.heap.size := by omega
        have l4 : ¬ W2.heap.size = b0 + 1 + 1 := by omega
        replace hK2 := Lib.hid hK2
        clear hB
        go_wp2_with fail
        refine (rcount_any s _ hs2).mono ?_
        rintro e w1 ⟨rfl, rfl⟩
        go_wp2
        rw [rounds_succ]
        go_wp2
        simp at hD2 hD
        have q2 := ((KeepsOthers.setCell W2 ⟨b0 + 1 + 1, 0, none⟩ (.bool true)).trans (KeepsOthers.alloc (W2.setCell ⟨b0 + 1 + 1, 0, none⟩ (.bool true)) (.cells #[.int .i64 2] 3))).same D2 _ hK2.out rfl
        have q1 := ((KeepsOthers.setCell W2 ⟨b0 + 1 + 1, 0, none⟩ (.bool true)).trans (KeepsOthers.alloc (W2.setCell ⟨b0 + 1 + 1, 0, none⟩ (.bool true)) (.cells #[.int .i64 2] 3))).same D _ hKW.out rfl
        have q0 : ((W2.setCell ⟨b0 + 1 + 1, 0, none⟩ (.bool true)).alloc (.cells #[.int .i64 2] 3)).cell? ⟨b0 + 1 + 1, 0, none⟩ = some (.bool true) := cell_alloc1 _ (World.cell?_setCell_same' _ _ _ (by rw [kR]; rfl))
        have qB : Below b0 w ((W2.setCell ⟨b0 + 1 + 1, 0, none⟩ (.bool true)).alloc (.cells #[.int .i64 2] 3)) := (hB2.out.setCell (p := ⟨b0 + 1 + 1, 0, none⟩) (by simp; omega) _).alloc (by simp [World.setCell]; omega) _
        generalize (W2.setCell ⟨b0 + 1 + 1, 0, none⟩ (.bool true)).alloc (.cells #[.int .i64 2] 3) = F at q2 q1 q0 qB ⊢
        have q1' : (F.putObj D2 (.deferred none)).heap[D]? = some (.deferred (some [])) := (World.putObj_heap_other (by omega)).trans q1
        have q0' := cell_kept (cell_kept q0 (grownBy_putObj' _ D2 (.deferred none)) (fun r e => by cases e; exact ⟨_, q2, rfl⟩)) (grownBy_putObj' _ D (.deferred none)) (fun r e => by cases e; exact ⟨_, q1', rfl⟩)
        have qB' := (qB.trans (belowK_b (n₀ := b0) (w := w) hw0 F D2 _ (.deferred none) (by omega) q2 rfl rfl)).trans (belowK_b (n₀ := b0) (w := w) hw0 _ D _ (.deferred none) (by omega) q1' rfl rfl)
        rw [hb0.out] at qB'
        refine ⟨by simp, .inl ⟨_, _, rfl, run_takeDeferred q2, ?_⟩⟩
        refine ⟨by simp, .inl ⟨_, _, rfl, run_takeDeferred q1', ?_⟩⟩
        refine ⟨.bool true, ?_, rfl, qB'⟩
        simp [results, Tryd.f3, go_sem, q0']
      · rintro D2 c2 pre2 W2 hD2 hpre2 (⟨rfl, hn⟩ | ⟨_, h_, _⟩) hK2
        · exact absurd hpre2 hn
        · cases h_
    · rintro D c pre W hD hpre (⟨rfl, hn⟩ | ⟨rfl, _, hl, k3, k5, k6, hB⟩) hK
      · exact absurd hpre hn
      · have hc2 : 2 ≤ ((cardB s : Nat) : Int) := by
          have h_ := hpre.length_le
          simp [hl] at h_
          have h_' : (elems s).length = cardB s := rfl
          omega
        clear hpre hl
        replace kS : W.cell? ⟨b0 + 1, 0, none⟩ = some (.int .u32 s) := (hB.cell (p := ⟨b0 + 1, 0, none⟩) (by simp; omega)).trans kS
        replace kR : W.cell? ⟨b0 + 1 + 1, 0, none⟩ = some (.bool false) := (hB.cell (p := ⟨b0 + 1 + 1, 0, none⟩) (by simp; omega)).trans kR
        replace fR : W.frozen? ⟨b0 + 1 + 1, 0, none⟩ = false := (hB.frozen (p := ⟨b0 + 1 + 1, 0, none⟩) (by simp; omega)).trans fR
        replace kB : W.cell? ⟨b0 + 1 + 1 + 1, 0, none⟩ = some (.int .u32 s) := (hB.cell (p := ⟨b0 + 1 + 1 + 1, 0, none⟩) (by simp; omega)).trans kB
        have HTW : Hid (Tab W) := Lib.hid (HTZ.out.below hw1' hB)
        have hBW0 : Hid (Below b0 w W) := Lib.hid (hBz.out.trans (hB.mono (by omega)))
        have hWs := hB.size
        have hDs : D < W.heap.size := (Array.getElem?_eq_some_iff.1 hK).1
        replace hK := Lib.hid hK
        clear hB
        go_wp2_with fail
        refine (rcount_any s _ hs2).mono ?_
        rintro e w1 ⟨rfl, rfl⟩
        by_cases hw : 2 < ((cardB s : Nat) : Int)
        · go_wp2
          clear k3 k5 k6 hc2 hw
          rw [rounds_succ]
          go_wp2
          obtain ⟨b2, hb2⟩ : ∃ b2, b2 = W.heap.size := ⟨_, rfl⟩
          simp only [← hb2]
          have hw2 : b2 ≤ W.heap.size := by omega
          have hw2' : W.heap.size ≤ b2 := by omega
          have hlt2 : b0 + 1 + 1 + 1 < b2 := by omega
          replace hb2 := Lib.hid hb2
          have e0 : ¬ b0 = b2 := by omega
          have e1 : ¬ b0 + 1 = b2 := by omega
          have e2 : ¬ b0 + 1 + 1 = b2 := by omega
          have e3 : ¬ b2 = b0 := by omega
          have e4 : ¬ b2 = b0 + 1 := by omega
          have e5 : ¬ b2 = b0 + 1 + 1 := by omega
          refine wp_range_members (bs := b0 + 1 + 1 + 1) (s := s) (n₀ := b2) rfl hs2 ?_ ?_ ?_ ?_ (Nat.lt_of_lt_of_le htab (by omega)) (SetsI s 1 b2 W) (SetsX s 1 b2 W) ?_ ?_ ?_
            (fun A x => (A.setIfInBounds 79 (.int .i64 (x.val : Int))).setIfInBounds 16 (.int .i64 (x.val : Int))) ?_ ?_ ?_ ?_
          · simp; omega
          · simp; omega
          · exact cell_alloc1 _ (cell_alloc1 _ (cell_alloc1 _ kB))
          · exact (HTW.out.below (Nat.le_refl _) (by repeat (first | with_reducible refine Below.drew ?_ | with_reducible refine below_drewN ?_ | with_reducible refine Below.alloc_ ?_ _ | with_reducible refine Below.setCell ?_ (by first | (simp; done) | (simp; omega)) _ | with_reducible exact Below.refl _ _ )))
          · exact setsI_own (by omega) (by simp; omega)
          · exact setsX_own (by omega) (by simp; omega)
          · (rw [hb2.out]; exact ⟨⟨0, by omega, rfl, by go_simp, by go_simp, by go_simp, by go_simp, by go_simp, by go_simp, fun h_ => by cases h_⟩, (by repeat (first | with_reducible refine Below.drew ?_ | with_reducible refine below_drewN ?_ | with_reducible refine Below.alloc_ ?_ _ | with_reducible refine Below.setCell ?_ (by first | (simp; done) | (simp; omega)) _ | with_reducible exact Below.refl _ _ ))⟩)
          · intro l x W K hK
            simp only [List.setIfInBounds_toArray, List.set_cons_zero, List.set_cons_succ] at hK ⊢
            gi_wp2
            exact hK
          · rintro l pre x W ⟨⟨nx, h1, h2, k1, k2, k3, k4, k5, k6, k10⟩, hB⟩ hlen
            simp only [List.setIfInBounds_toArray, List.set_cons_zero, List.set_cons_succ]
            replace h2 := Lib.hid h2
            replace k10 := Lib.hid k10
            gi_wp2
            gi_loopg [] (32 - nx) (fun k wr => ∃ m : Nat, m + k = 32 ∧ nx ≤ m ∧ (∀ i, nx ≤ i → i < m → s.testBit i = false) ∧ wr.cell? ⟨b2 + 1, 0, none⟩ = some (.int .i64 m) ∧ wr.frozen? ⟨b2 + 1, 0, none⟩ = false ∧
              wr.cell? ⟨b2 + 1 + 1, 0, none⟩ = some (.int .i64 (pre.length : Nat)) ∧ wr.frozen? ⟨b2 + 1 + 1, 0, none⟩ = false ∧ wr.cell? ⟨b2, 0, none⟩ = some (.int .i64 1) ∧ wr.frozen? ⟨b2, 0, none⟩ = false ∧
              KeepsOthers W wr ∧ Below b2 W wr)
            case atStart => exact ⟨nx, by omega, Nat.le_refl _, fun i hi hj => by omega, k1, k2, k3, k4, k5, k6, KeepsOthers.refl _, Below.refl _ _⟩
            case round =>
              obtain ⟨m, g0, g1, g2, g3, g4, g5, g6, g7, g8, hKO, hBW⟩ := hrel
              have g9 : wr.cell? ⟨b0 + 1, 0, none⟩ = some (.int .u32 s) := ((hB.trans hBW).cell (p := ⟨b0 + 1, 0, none⟩) (by simp; omega)).trans kS
              have g10 : wr.cell? ⟨b0 + 1 + 1, 0, none⟩ = some (.bool false) := ((hB.trans hBW).cell (p := ⟨b0 + 1 + 1, 0, none⟩) (by simp; omega)).trans kR
              have g11 : wr.frozen? ⟨b0 + 1 + 1, 0, none⟩ = false := ((hB.trans hBW).frozen (p := ⟨b0 + 1 + 1, 0, none⟩) (by simp; omega)).trans fR
              replace g2 := Lib.hid g2
              replace hKO := Lib.hid hKO
              replace hBW := Lib.hid hBW
              by_cases hm : m < 32
              · have H := rhas_any s m wr hs2
                rw [hasB_bit hm] at H
                by_cases hbit : s.testBit m = true
                · rw [hbit] at H
                  replace H := Lib.hid H
                  replace hbit := Lib.hid hbit
                  gi_wp2_with fail
                  refine ⟨trivial, (CallsIn.inRound l (callsIn_wide.2 H.out)).mono ?_⟩
                  rintro e w1 ⟨rfl, rfl⟩
                  by_cases hx : x.val = m
                  · have hx31 : (m : Int) ≤ 31 := by omega
                    have hxm : ((x.val : Int) != (m : Int)) = false := by rw [hx]; simp
                    have hx31' : ¬ 31 < (x.val : Int) := by omega
                    have hnew : Hid ((pre ++ [x]).map Fin.val = (List.range (m + 1)).filter s.testBit) := Lib.hid (by rw [List.map_append, h2.out, next_take g1 g2.out hbit.out, List.map_cons, List.map_nil, hx])
                    have hl2 : Hid (((pre ++ [x]).length : Int) = (pre.length : Int) + 1) := Lib.hid (by simp)
                    have hl0 : Hid True := Lib.hid trivial
                    gi_wp2
                    exact ⟨(hKO.out.trans (KeepsOthers.setCell _ _ _)).trans (KeepsOthers.setCell _ _ _), (hBW.out.setCell (p := ⟨b2 + 1, 0, none⟩) (by simp) _).setCell (p := ⟨b2 + 1 + 1, 0, none⟩) (by simp; omega) _,
                      ⟨m + 1, by omega, hnew.out, (World.cell?_setCell_far _ _ _ _ (by first | (simp; done) | (simp; omega))).trans (World.cell?_setCell_same' _ _ _ (by rw [g3]; rfl)), by rw [World.frozen?_setCell, World.frozen?_setCell]; exact g4,
                        by rw [hl2.out]; exact cell_set2 (by first | (simp; done) | (simp; omega)) g5, by rw [World.frozen?_setCell, World.frozen?_setCell]; exact g6,
                        (World.cell?_setCell_far _ _ _ _ (by first | (simp; done) | (simp; omega))).trans ((World.cell?_setCell_far _ _ _ _ (by first | (simp; done) | (simp; omega))).trans g7), by rw [World.frozen?_setCell, World.frozen?_setCell]; exact g8,
                        by intro h_; first | (have h_' := hl0.out; rw [List.length_append]; simp only [List.length_cons, List.length_nil]; omega) | cases h_⟩, ((hB.trans hBW.out).setCell (p := ⟨b2 + 1, 0, none⟩) (by simp) _).setCell (p := ⟨b2 + 1 + 1, 0, none⟩) (by simp; omega) _⟩
                  · have hxm : ((x.val : Int) != (m : Int)) = true := by simp; omega
                    have hpre : Hid (¬ ((pre ++ [x]).map Fin.val <+: elems s)) := Lib.hid (fun h => by
                      rw [List.map_append, h2.out] at h
                      have := next_elem g1 (by omega) g2.out (.inr hbit.out) h
                      exact hx this.2)
                    gi_wp2
                    exact ⟨hKO.out.trans (KeepsOthers.setCell _ _ _), .inl ⟨rfl, hpre.out⟩⟩
                · have hbit' : s.testBit m = false := by simpa using hbit
                  rw [hbit'] at H
                  replace H := Lib.hid H
                  replace hbit := Lib.hid hbit'
                  clear hbit'
                  gi_wp2_with fail
                  refine ⟨trivial, (CallsIn.inRound l (callsIn_wide.2 H.out)).mono ?_⟩
                  rintro e w1 ⟨rfl, rfl⟩
                  gi_wp2
                  gi_roundg (32 - (m + 1))
                  case measure => omega
                  case rel =>
                    exact ⟨m + 1, by omega, by omega, fun i hi hj => by
                        by_cases e : i = m
                        · rw [e]; exact hbit.out
                        · exact g2.out i hi (by omega),
                      World.cell?_setCell_same' _ _ _ (by rw [g3]; rfl), by rw [World.frozen?_setCell]; exact g4,
                      (World.cell?_setCell_far _ _ _ _ (by first | (simp; done) | (simp; omega))).trans g5, by rw [World.frozen?_setCell]; exact g6,
                      (World.cell?_setCell_far _ _ _ _ (by first | (simp; done) | (simp; omega))).trans g7, by rw [World.frozen?_setCell]; exact g8,
                      hKO.out.trans (KeepsOthers.setCell _ _ _), hBW.out.setCell (p := ⟨b2 + 1, 0, none⟩) (by simp) _⟩
              · obtain rfl : m = 32 := by omega
                replace g3 : wr.cell? ⟨b2 + 1, 0, none⟩ = some (.int .i64 32) := g3
                have hd32 : decide ((32 : Int) < 32) = false := rfl
                clear hm g0
                have hxm : ((x.val : Int) != (32 : Int)) = true := by have := x.isLt; simp; omega
                have hpre : Hid (¬ ((pre ++ [x]).map Fin.val <+: elems s)) := Lib.hid (fun h => by
                  rw [List.map_append, h2.out] at h
                  have := next_elem g1 (by omega) g2.out (.inl rfl) h
                  omega)
                gi_wp2
                refine ⟨trivial, ?_⟩
                gi_wp2
                exact ⟨hKO.out.trans (KeepsOthers.setCell _ _ _), .inl ⟨rfl, hpre.out⟩⟩
          · rintro D2 ys W2 hD2 hys ⟨⟨nx, h1, h2, k1, k2, k3, k4, k5, k6, k10⟩, hB⟩ hK2
            have hce : (ys.length : Int) = (cardB s : Nat) := by
              have h_ := congrArg List.length hys
              simp at h_
              rw [h_]; rfl
            rw [hce] at k3
            clear hys h1 h2 k1 k2 k10 hce
            replace kS : W2.cell? ⟨b0 + 1, 0, none⟩ = some (.int .u32 s) := (hB.cell (p := ⟨b0 + 1, 0, none⟩) (by simp; omega)).trans kS
            replace kR : W2.cell? ⟨b0 + 1 + 1, 0, none⟩ = some (.bool false) := (hB.cell (p := ⟨b0 + 1 + 1, 0, none⟩) (by simp; omega)).trans kR
            replace fR : W2.frozen? ⟨b0 + 1 + 1, 0, none⟩ = false := (hB.frozen (p := ⟨b0 + 1 + 1, 0, none⟩) (by simp; omega)).trans fR
            have hB2 : Hid (Below b0 w W2) := Lib.hid (hBW0.out.trans (hB.mono (by omega)))
            have hKW : Hid (W2.heap[D]? = some (.deferred (some []))) := Lib.hid ((hB.block D (by omega)).trans hK.out)
            have hWs2 := hB.size
            have l1 : b0 + 1 < W2.heap.size := by omega
            have l2 : b0 + 1 + 1 < W2.heap.size := by omega
            have l3 : ¬ b0 + 1 + 1 = W2.heap.size := by omega
            have l4 : ¬ W2.heap.size = b0 + 1 + 1 := by omega
            replace hK2 := Lib.hid hK2
            clear hB
            go_wp2_with fail
            refine (rcount_any s _ hs2).mono ?_
            rintro e w1 ⟨rfl, rfl⟩
            go_wp2
            rw [rounds_succ]
            go_wp2
            simp at hD2 hD
            have q2 := ((KeepsOthers.setCell W2 ⟨b0 + 1 + 1, 0, none⟩ (.bool true)).trans (KeepsOthers.alloc (W2.setCell ⟨b0 + 1 + 1, 0, none⟩ (.bool true)) (.cells #[.int .i64 2] 3))).same D2 _ hK2.out rfl
            have q1 := ((KeepsOthers.setCell W2 ⟨b0 + 1 + 1, 0, none⟩ (.bool true)).trans (KeepsOthers.alloc (W2.setCell ⟨b0 + 1 + 1, 0, none⟩ (.bool true)) (.cells #[.int .i64 2] 3))).same D _ hKW.out rfl
            have q0 : ((W2.setCell ⟨b0 + 1 + 1, 0, none⟩ (.bool true)).alloc (.cells #[.int .i64 2] 3)).cell? ⟨b0 + 1 + 1, 0, none⟩ = some (.bool true) := cell_alloc1 _ (World.cell?_setCell_same' _ _ _ (by rw [kR]; rfl))
            have qB : Below b0 w ((W2.setCell ⟨b0 + 1 + 1, 0, none⟩ (.bool true)).alloc (.cells #[.int .i64 2] 3)) := (hB2.out.setCell (p := ⟨b0 + 1 + 1, 0, none⟩) (by simp; omega) _).alloc (by simp [World.setCell]; omega) _
            generalize (W2.setCell ⟨b0 + 1 + 1, 0, none⟩ (.bool true)).alloc (.cells #[.int .i64 2] 3) = F at q2 q1 q0 qB ⊢
            have q1' : (F.putObj D2 (.deferred none)).heap[D]? = some (.deferred (some [])) := (World.putObj_heap_other (by omega)).trans q1
            have q0' := cell_kept (cell_kept q0 (grownBy_putObj' _ D2 (.deferred none)) (fun r e => by cases e; exact ⟨_, q2, rfl⟩)) (grownBy_putObj' _ D (.deferred none)) (fun r e => by cases e; exact ⟨_, q1', rfl⟩)
            have qB' := (qB.trans (belowK_b (n₀ := b0) (w := w) hw0 F D2 _ (.deferred none) (by omega) q2 rfl rfl)).trans (belowK_b (n₀ := b0) (w := w) hw0 _ D _ (.deferred none) (by omega) q1' rfl rfl)
            rw [hb0.out] at qB'
            refine ⟨by simp, .inl ⟨_, _, rfl, run_takeDeferred q2, ?_⟩⟩
            refine ⟨by simp, .inl ⟨_, _, rfl, run_takeDeferred q1', ?_⟩⟩
            refine ⟨.bool true, ?_, rfl, qB'⟩
            simp [results, Tryd.f3, go_sem, q0']
          · rintro D2 c2 pre2 W2 hD2 hpre2 (⟨rfl, hn⟩ | ⟨_, h_, _⟩) hK2
            · exact absurd hpre2 hn
            · cases h_
        · have hne : ((2 : Int) != ((cardB s : Nat) : Int)) = false := by simp; omega
          go_wp2
          clear k3 k5 k6 hc2 hw hne
          rw [rounds_succ]
          go_wp2
          obtain ⟨b2, hb2⟩ : ∃ b2, b2 = W.heap.size := ⟨_, rfl⟩
          simp only [← hb2]
          have hw2 : b2 ≤ W.heap.size := by omega
          have hw2' : W.heap.size ≤ b2 := by omega
          have hlt2 : b0 + 1 + 1 + 1 < b2 := by omega
          replace hb2 := Lib.hid hb2
          have e0 : ¬ b0 = b2 := by omega
          have e1 : ¬ b0 + 1 = b2 := by omega
          have e2 : ¬ b0 + 1 + 1 = b2 := by omega
          have e3 : ¬ b2 = b0 := by omega
          have e4 : ¬ b2 = b0 + 1 := by omega
          have e5 : ¬ b2 = b0 + 1 + 1 := by omega
          refine wp_range_members (bs := b0 + 1 + 1 + 1) (s := s) (n₀ := b2) rfl hs2 ?_ ?_ ?_ ?_ (Nat.lt_of_lt_of_le htab (by omega)) (SetsI s 1 b2 W) (SetsX s 1 b2 W) ?_ ?_ ?_
            (fun A x => (A.setIfInBounds 79 (.int .i64 (x.val : Int))).setIfInBounds 16 (.int .i64 (x.val : Int))) ?_ ?_ ?_ ?_
          · simp; omega
          · simp; omega
          · exact cell_alloc1 _ (cell_alloc1 _ (cell_alloc1 _ kB))
          · exact (HTW.out.below (Nat.le_refl _) (by repeat (first | with_reducible refine Below.drew ?_ | with_reducible refine below_drewN ?_ | with_reducible refine Below.alloc_ ?_ _ | with_reducible refine Below.setCell ?_ (by first | (simp; done) | (simp; omega)) _ | with_reducible exact Below.refl _ _ )))
          · exact setsI_own (by omega) (by simp; omega)
          · exact setsX_own (by omega) (by simp; omega)
          · (rw [hb2.out]; exact ⟨⟨0, by omega, rfl, by go_simp, by go_simp, by go_simp, by go_simp, by go_simp, by go_simp, fun h_ => by cases h_⟩, (by repeat (first | with_reducible refine Below.drew ?_ | with_reducible refine below_drewN ?_ | with_reducible refine Below.alloc_ ?_ _ | with_reducible refine Below.setCell ?_ (by first | (simp; done) | (simp; omega)) _ | with_reducible exact Below.refl _ _ ))⟩)
          · intro l x W K hK
            simp only [List.setIfInBounds_toArray, List.set_cons_zero, List.set_cons_succ] at hK ⊢
            gi_wp2
            exact hK
          · rintro l pre x W ⟨⟨nx, h1, h2, k1, k2, k3, k4, k5, k6, k10⟩, hB⟩ hlen
            simp only [List.setIfInBounds_toArray, List.set_cons_zero, List.set_cons_succ]
            replace h2 := Lib.hid h2
            replace k10 := Lib.hid k10
            gi_wp2
            gi_loopg [] (32 - nx) (fun k wr => ∃ m : Nat, m + k = 32 ∧ nx ≤ m ∧ (∀ i, nx ≤ i → i < m → s.testBit i = false) ∧ wr.cell? ⟨b2 + 1, 0, none⟩ = some (.int .i64 m) ∧ wr.frozen? ⟨b2 + 1, 0, none⟩ = false ∧
              wr.cell? ⟨b2 + 1 + 1, 0, none⟩ = some (.int .i64 (pre.length : Nat)) ∧ wr.frozen? ⟨b2 + 1 + 1, 0, none⟩ = false ∧ wr.cell? ⟨b2, 0, none⟩ = some (.int .i64 1) ∧ wr.frozen? ⟨b2, 0, none⟩ = false ∧
              KeepsOthers W wr ∧ Below b2 W wr)
            case atStart => exact ⟨nx, by omega, Nat.le_refl _, fun i hi hj => by omega, k1, k2, k3, k4, k5, k6, KeepsOthers.refl _, Below.refl _ _⟩
            case round =>
              obtain ⟨m, g0, g1, g2, g3, g4, g5, g6, g7, g8, hKO, hBW⟩ := hrel
              have g9 : wr.cell? ⟨b0 + 1, 0, none⟩ = some (.int .u32 s) := ((hB.trans hBW).cell (p := ⟨b0 + 1, 0, none⟩) (by simp; omega)).trans kS
              have g10 : wr.cell? ⟨b0 + 1 + 1, 0, none⟩ = some (.bool false) := ((hB.trans hBW).cell (p := ⟨b0 + 1 + 1, 0, none⟩) (by simp; omega)).trans kR
              have g11 : wr.frozen? ⟨b0 + 1 + 1, 0, none⟩ = false := ((hB.trans hBW).frozen (p := ⟨b0 + 1 + 1, 0, none⟩) (by simp; omega)).trans fR
              replace g2 := Lib.hid g2
              replace hKO := Lib.hid hKO
              replace hBW := Lib.hid hBW
              by_cases hm : m < 32
              · have H := rhas_any s m wr hs2
                rw [hasB_bit hm] at H
                by_cases hbit : s.testBit m = true
                · rw [hbit] at H
                  replace H := Lib.hid H
                  replace hbit := Lib.hid hbit
                  gi_wp2_with fail
                  refine ⟨trivial, (CallsIn.inRound l (callsIn_wide.2 H.out)).mono ?_⟩
                  rintro e w1 ⟨rfl, rfl⟩
                  by_cases hx : x.val = m
                  · have hx31 : (m : Int) ≤ 31 := by omega
                    have hxm : ((x.val : Int) != (m : Int)) = false := by rw [hx]; simp
                    have hx31' : ¬ 31 < (x.val : Int) := by omega
                    have hnew : Hid ((pre ++ [x]).map Fin.val = (List.range (m + 1)).filter s.testBit) := Lib.hid (by rw [List.map_append, h2.out, next_take g1 g2.out hbit.out, List.map_cons, List.map_nil, hx])
                    have hl2 : Hid (((pre ++ [x]).length : Int) = (pre.length : Int) + 1) := Lib.hid (by simp)
                    have hl0 : Hid True := Lib.hid trivial
                    gi_wp2
                    exact ⟨(hKO.out.trans (KeepsOthers.setCell _ _ _)).trans (KeepsOthers.setCell _ _ _), (hBW.out.setCell (p := ⟨b2 + 1, 0, none⟩) (by simp) _).setCell (p := ⟨b2 + 1 + 1, 0, none⟩) (by simp; omega) _,
                      ⟨m + 1, by omega, hnew.out, (World.cell?_setCell_far _ _ _ _ (by first | (simp; done) | (simp; omega))).trans (World.cell?_setCell_same' _ _ _ (by rw [g3]; rfl)), by rw [World.frozen?_setCell, World.frozen?_setCell]; exact g4,
                        by rw [hl2.out]; exact cell_set2 (by first | (simp; done) | (simp; omega)) g5, by rw [World.frozen?_setCell, World.frozen?_setCell]; exact g6,
                        (World.cell?_setCell_far _ _ _ _ (by first | (simp; done) | (simp; omega))).trans ((World.cell?_setCell_far _ _ _ _ (by first | (simp; done) | (simp; omega))).trans g7), by rw [World.frozen?_setCell, World.frozen?_setCell]; exact g8,
                        by intro h_; first | (have h_' := hl0.out; rw [List.length_append]; simp only [List.length_cons, List.length_nil]; omega) | cases h_⟩, ((hB.trans hBW.out).setCell (p := ⟨b2 + 1, 0, none⟩) (by simp) _).setCell (p := ⟨b2 + 1 + 1, 0, none⟩) (by simp; omega) _⟩
                  · have hxm : ((x.val : Int) != (m : Int)) = true := by simp; omega
                    have hpre : Hid (¬ ((pre ++ [x]).map Fin.val <+: elems s)) := Lib.hid (fun h => by
                      rw [List.map_append, h2.out] at h
                      have := next_elem g1 (by omega) g2.out (.inr hbit.out) h
                      exact hx this.2)
                    gi_wp2
                    exact ⟨hKO.out.trans (KeepsOthers.setCell _ _ _), .inl ⟨rfl, hpre.out⟩⟩
                · have hbit' : s.testBit m = false := by simpa using hbit
                  rw [hbit'] at H
                  replace H := Lib.hid H
                  replace hbit := Lib.hid hbit'
                  clear hbit'
                  gi_wp2_with fail
                  refine ⟨trivial, (CallsIn.inRound l (callsIn_wide.2 H.out)).mono ?_⟩
                  rintro e w1 ⟨rfl, rfl⟩
                  gi_wp2
                  gi_roundg (32 - (m + 1))
                  case measure => omega
                  case rel =>
                    exact ⟨m + 1, by omega, by omega, fun i hi hj => by
                        by_cases e : i = m
                        · rw [e]; exact hbit.out
                        · exact g2.out i hi (by omega),
                      World.cell?_setCell_same' _ _ _ (by rw [g3]; rfl), by rw [World.frozen?_setCell]; exact g4,
                      (World.cell?_setCell_far _ _ _ _ (by first | (simp; done) | (simp; omega))).trans g5, by rw [World.frozen?_setCell]; exact g6,
                      (World.cell?_setCell_far _ _ _ _ (by first | (simp; done) | (simp; omega))).trans g7, by rw [World.frozen?_setCell]; exact g8,
                      hKO.out.trans (KeepsOthers.setCell _ _ _), hBW.out.setCell (p := ⟨b2 + 1, 0, none⟩) (by simp) _⟩
              · obtain rfl : m = 32 := by omega
                replace g3 : wr.cell? ⟨b2 + 1, 0, none⟩ = some (.int .i64 32) := g3
                have hd32 : decide ((32 : Int) < 32) = false := rfl
                clear hm g0
                have hxm : ((x.val : Int) != (32 : Int)) = true := by have := x.isLt; simp; omega
                have hpre : Hid (¬ ((pre ++ [x]).map Fin.val <+: elems s)) := Lib.hid (fun h => by
                  rw [List.map_append, h2.out] at h
                  have := next_elem g1 (by omega) g2.out (.inl rfl) h
                  omega)
                gi_wp2
                refine ⟨trivial, ?_⟩
                gi_wp2
                exact ⟨hKO.out.trans (KeepsOthers.setCell _ _ _), .inl ⟨rfl, hpre.out⟩⟩
          · rintro D2 ys W2 hD2 hys ⟨⟨nx, h1, h2, k1, k2, k3, k4, k5, k6, k10⟩, hB⟩ hK2
            have hce : (ys.length : Int) = (cardB s : Nat) := by
              have h_ := congrArg List.length hys
              simp at h_
              rw [h_]; rfl
            rw [hce] at k3
            clear hys h1 h2 k1 k2 k10 hce
            replace kS : W2.cell? ⟨b0 + 1, 0, none⟩ = some (.int .u32 s) := (hB.cell (p := ⟨b0 + 1, 0, none⟩) (by simp; omega)).trans kS
            replace kR : W2.cell? ⟨b0 + 1 + 1, 0, none⟩ = some (.bool false) := (hB.cell (p := ⟨b0 + 1 + 1, 0, none⟩) (by simp; omega)).trans kR
            replace fR : W2.frozen? ⟨b0 + 1 + 1, 0, none⟩ = false := (hB.frozen (p := ⟨b0 + 1 + 1, 0, none⟩) (by simp; omega)).trans fR
            have hB2 : Hid (Below b0 w W2) := Lib.hid (hBW0.out.trans (hB.mono (by omega)))
            have hKW : Hid (W2.heap[D]? = some (.deferred (some []))) := Lib.hid ((hB.block D (by omega)).trans hK.out)
            have hWs2 := hB.size
            have l1 : b0 + 1 < W2.heap.size := by omega
            have l2 : b0 + 1 + 1 < W2.heap.size := by omega
            have l3 : ¬ b0 + 1 + 1 = W2.heap.size := by omega
            have l4 : ¬ W2.heap.size = b0 + 1 + 1 := by omega
            replace hK2 := Lib.hid hK2
            clear hB
            go_wp2_with fail
            refine (rcount_any s _ hs2).mono ?_
            rintro e w1 ⟨rfl, rfl⟩
            go_wp2
            rw [rounds_succ]
            go_wp2
            simp at hD2 hD
            have q2 := ((KeepsOthers.setCell W2 ⟨b0 + 1 + 1, 0, none⟩ (.bool true)).trans (KeepsOthers.alloc (W2.setCell ⟨b0 + 1 + 1, 0, none⟩ (.bool true)) (.cells #[.int .i64 2] 3))).same D2 _ hK2.out rfl
            have q1 := ((KeepsOthers.setCell W2 ⟨b0 + 1 + 1, 0, none⟩ (.bool true)).trans (KeepsOthers.alloc (W2.setCell ⟨b0 + 1 + 1, 0, none⟩ (.bool true)) (.cells #[.int .i64 2] 3))).same D _ hKW.out rfl
            have q0 : ((W2.setCell ⟨b0 + 1 + 1, 0, none⟩ (.bool true)).alloc (.cells #[.int .i64 2] 3)).cell? ⟨b0 + 1 + 1, 0, none⟩ = some (.bool true) := cell_alloc1 _ (World.cell?_setCell_same' _ _ _ (by rw [kR]; rfl))
            have qB : Below b0 w ((W2.setCell ⟨b0 + 1 + 1, 0, none⟩ (.bool true)).alloc (.cells #[.int .i64 2] 3)) := (hB2.out.setCell (p := ⟨b0 + 1 + 1, 0, none⟩) (by simp; omega) _).alloc (by simp [World.setCell]; omega) _
            generalize (W2.setCell ⟨b0 + 1 + 1, 0, none⟩ (.bool true)).alloc (.cells #[.int .i64 2] 3) = F at q2 q1 q0 qB ⊢
            have q1' : (F.putObj D2 (.deferred none)).heap[D]? = some (.deferred (some [])) := (World.putObj_heap_other (by omega)).trans q1
            have q0' := cell_kept (cell_kept q0 (grownBy_putObj' _ D2 (.deferred none)) (fun r e => by cases e; exact ⟨_, q2, rfl⟩)) (grownBy_putObj' _ D (.deferred none)) (fun r e => by cases e; exact ⟨_, q1', rfl⟩)
            have qB' := (qB.trans (belowK_b (n₀ := b0) (w := w) hw0 F D2 _ (.deferred none) (by omega) q2 rfl rfl)).trans (belowK_b (n₀ := b0) (w := w) hw0 _ D _ (.deferred none) (by omega) q1' rfl rfl)
            rw [hb0.out] at qB'
            refine ⟨by simp, .inl ⟨_, _, rfl, run_takeDeferred q2, ?_⟩⟩
            refine ⟨by simp, .inl ⟨_, _, rfl, run_takeDeferred q1', ?_⟩⟩
            refine ⟨.bool true, ?_, rfl, qB'⟩
            simp [results, Tryd.f3, go_sem, q0']
          · rintro D2 c2 pre2 W2 hD2 hpre2 (⟨rfl, hn⟩ | ⟨_, h_, _⟩) hK2
            · exact absurd hpre2 hn
            · cases h_
  · exact absurd hbad.out hb
set_option maxRecDepth 100000 in
set_option maxHeartbeats 3200000 in
theorem sets_no (c : Cfg) (s t q : Int) (w : World) (ok : c.Ok) (hbad : c.bad ≠ -1) (hT : Tab w) (hs : (Lit.int .u32 s).wf = true) (ht : (Lit.int .u32 t).wf = true) (hq : (Lit.int .i64 q).wf = true) :
    Calls Tryd.prog 3 #[.agg #[.int .i64 c.f, .int .i64 c.mb, .int .u64 c.dl, .int .u64 c.wd, .int .u64 c.ev, .int .u64 c.bt, .int .u64 c.ep, .int .u64 c.em, .int .u64 c.mn, .int .u64 c.ms], .int .u32 s, .int .u32 t, .int .i64 q] w fun e w' => e = .returned (.bool true) ∧ Below w.heap.size w w' := by
  obtain ⟨s, rfl⟩ : ∃ n : Nat, s = n := ⟨s.toNat, by have := (wf_u32 hs).1; omega⟩
  obtain ⟨t, rfl⟩ : ∃ n : Nat, t = n := ⟨t.toNat, by have := (wf_u32 ht).1; omega⟩
  have hs2 : s < 4294967296 := by have := (wf_u32 hs).2; omega
  have ht2 : t < 4294967296 := by have := (wf_u32 ht).2; omega
  have HT := Lib.hid hT
  clear hs ht hq hT
  replace hbad := Lib.hid hbad
  refine (callsIn_wide (n := 9)).1 ?_
  refine callsIn_of_wp_marks Tryd.func3 rfl trivial ?_ rfl
  simp only [Tryd.ntmps3, List.size_toArray, List.length_cons, List.length_nil, Nat.reduceAdd, Nat.reduceSub, Array.replicate_succ, Array.replicate_zero, List.push_toArray, List.append_toArray, List.nil_append, List.cons_append]
  refine wpIn_wide.2 ?_
  go_wp2_with fail
  refine (members_any s _).mono ?_
  rintro e w1 ⟨rfl, rfl⟩
  go_wp2_with fail
  refine (groups_any c _ ok).mono ?_
  rintro e wa (⟨hb, b, d, rfl, hlb, hg, hr, hb_wa⟩ | ⟨hb, rfl, hb_wa⟩)
  · exact absurd hb hbad.out
  · clear hb
    have hc_wa := (bcell hb_wa).1
    have hf_wa := (bcell hb_wa).2
    have hz_wa_0 : w.heap.size < wa.heap.size := by have h_ := hb_wa.size; (try simp at h_); omega
    have hz_wa_1 : w.heap.size + 1 < wa.heap.size := by have h_ := hb_wa.size; (try simp at h_); omega
    have hz_wa_2 : w.heap.size + 1 + 1 < wa.heap.size := by have h_ := hb_wa.size; (try simp at h_); omega
    have hz_wa_3 : w.heap.size + 1 + 1 + 1 < wa.heap.size := by have h_ := hb_wa.size; (try simp at h_); omega
    go_wp2
    refine wp_region_below (by kernel_rfl) (by kernel_rfl) ?_
    repeat first | go_big_quiet_skip | (go_big_quiet_want; go_big_quiet_op; go_big_quiet_on) | (go_big_quiet_want; rename_i K hK; apply quiet_mk; (focus (intro w1 hw1; have hc1 := (bcell hw1).1; have hf1 := (bcell hw1).2; go_simp; first | done | rfl | (first | (go_at_call 11; (with_reducible refine (sameB (with_any s q _ hs2)).mono ?_); rintro e w2 ⟨rfl, hb2⟩; exact ⟨rfl, (hw1.trans (hb2.mono hw1.size)).mono (by simp)⟩) | (go_at_call 12; (with_reducible refine (sameB (rwith_any s q _ hs2)).mono ?_); rintro e w2 ⟨rfl, hb2⟩; exact ⟨rfl, (hw1.trans (hb2.mono hw1.size)).mono (by simp)⟩) | (go_at_call 13; (with_reducible refine (sameB (has_any s q _ hs2)).mono ?_); rintro e w2 ⟨rfl, hb2⟩; exact ⟨rfl, (hw1.trans (hb2.mono hw1.size)).mono (by simp)⟩) | (go_at_call 14; (with_reducible refine (sameB (rhas_any s q _ hs2)).mono ?_); rintro e w2 ⟨rfl, hb2⟩; exact ⟨rfl, (hw1.trans (hb2.mono hw1.size)).mono (by simp)⟩)))); refine hK _ ?_; clear hK K; try simp only [Act.put, List.setIfInBounds_toArray, List.set_cons_zero, List.set_cons_succ])
    refine wpQuiet_nil ?_
    intro wx hb_wx
    have hc_wx := (bcell hb_wx).1
    have hf_wx := (bcell hb_wx).2
    have hz_wx_0 : w.heap.size < wx.heap.size := by have h_ := hb_wx.size; (try simp at h_); omega
    have hz_wx_1 : w.heap.size + 1 < wx.heap.size := by have h_ := hb_wx.size; (try simp at h_); omega
    have hz_wx_2 : w.heap.size + 1 + 1 < wx.heap.size := by have h_ := hb_wx.size; (try simp at h_); omega
    have hz_wx_3 : w.heap.size + 1 + 1 + 1 < wx.heap.size := by have h_ := hb_wx.size; (try simp at h_); omega
    have HTX : Hid (Tab wx) := Lib.hid (HT.out.below (Nat.le_refl _) (by repeat (first | with_reducible refine Below.drew ?_ | with_reducible refine below_drewN ?_ | with_reducible refine Below.alloc_ ?_ _ | with_reducible refine Below.setCell ?_ (by first | (simp; done) | (simp; omega)) _ | with_reducible exact Below.refl _ _ | with_reducible exact hb_wa | with_reducible refine Below.on ?_ hb_wa | with_reducible exact hb_wx | with_reducible refine Below.on ?_ hb_wx )))
    go_wp2
    refine wp_region_below (by kernel_rfl) (by kernel_rfl) ?_
    repeat first | go_big_quiet_skip | (go_big_quiet_want; go_big_quiet_op; go_big_quiet_on) | (go_big_quiet_want; rename_i K hK; apply quiet_mk; (focus (intro w1 hw1; have hc1 := (bcell hw1).1; have hf1 := (bcell hw1).2; go_simp; first | done | rfl | (first | (go_at_call 15; (refine (count_any s _ hs2 (HTX.out.below (Nat.le_refl _) hw1)).mono ?_); rintro e w2 ⟨rfl, hb2⟩; exact ⟨rfl, (hw1.trans (hb2.mono hw1.size)).mono (by simp)⟩) | (go_at_call 16; (with_reducible refine (sameB (rcount_any s _ hs2)).mono ?_); rintro e w2 ⟨rfl, hb2⟩; exact ⟨rfl, (hw1.trans (hb2.mono hw1.size)).mono (by simp)⟩) | (go_at_call 17; (refine (cross_any s t _ hs2 ht2 (HTX.out.below (Nat.le_refl _) hw1)).mono ?_); rintro e w2 ⟨rfl, hb2⟩; exact ⟨rfl, (hw1.trans (hb2.mono hw1.size)).mono (by simp)⟩) | (go_at_call 18; (with_reducible refine (sameB (rcross_any s t _ hs2 ht2)).mono ?_); rintro e w2 ⟨rfl, hb2⟩; exact ⟨rfl, (hw1.trans (hb2.mono hw1.size)).mono (by simp)⟩)))); refine hK _ ?_; clear hK K; try simp only [Act.put, List.setIfInBounds_toArray, List.set_cons_zero, List.set_cons_succ])
    refine wpQuiet_nil ?_
    intro wz hb_wz
    have hc_wz := (bcell hb_wz).1
    have hf_wz := (bcell hb_wz).2
    have hz_wz_0 : w.heap.size < wz.heap.size := by have h_ := hb_wz.size; (try simp at h_); omega
    have hz_wz_1 : w.heap.size + 1 < wz.heap.size := by have h_ := hb_wz.size; (try simp at h_); omega
    have hz_wz_2 : w.heap.size + 1 + 1 < wz.heap.size := by have h_ := hb_wz.size; (try simp at h_); omega
    have hz_wz_3 : w.heap.size + 1 + 1 + 1 < wz.heap.size := by have h_ := hb_wz.size; (try simp at h_); omega
    have HTZ : Hid (Tab wz) := Lib.hid (HTX.out.below (Nat.le_refl _) hb_wz)
    go_wp2_with fail
    refine (majority_not none s _ (.inl rfl)).mono ?_
    rintro e w1 ⟨rfl, rfl⟩
    go_wp2
    refine wp_loop_rounds 3 ?_
    rw [rounds_succ]
    go_wp2
    have kS : wz.cell? ⟨w.heap.size + 1, 0, none⟩ = some (.int .u32 s) := by go_simp
    have kR : wz.cell? ⟨w.heap.size + 1 + 1, 0, none⟩ = some (.bool false) := by go_simp
    have fR : wz.frozen? ⟨w.heap.size + 1 + 1, 0, none⟩ = false := by go_simp
    have kB : wz.cell? ⟨w.heap.size + 1 + 1 + 1, 0, none⟩ = some (.int .u32 s) := by go_simp
    obtain ⟨b0, hb0⟩ : ∃ b0, b0 = w.heap.size := ⟨_, rfl⟩
    obtain ⟨b1, hb1⟩ : ∃ b1, b1 = wz.heap.size := ⟨_, rfl⟩
    rw [← hb0] at kS kR fR kB
    have hBz : Hid (Below b0 w wz) := Lib.hid (by rw [hb0]; exact (by repeat (first | with_reducible refine Below.drew ?_ | with_reducible refine below_drewN ?_ | with_reducible refine Below.alloc_ ?_ _ | with_reducible refine Below.setCell ?_ (by first | (simp; done) | (simp; omega)) _ | with_reducible exact Below.refl _ _ | with_reducible exact hb_wa | with_reducible refine Below.on ?_ hb_wa | with_reducible exact hb_wx | with_reducible refine Below.on ?_ hb_wx | with_reducible exact hb_wy | with_reducible refine Below.on ?_ hb_wy | with_reducible exact hb_wz | with_reducible refine Below.on ?_ hb_wz )))
    have hlt : b0 + 1 + 1 + 1 < b1 := by omega
    have htab : 0 < b0 := by have h_ := HT.out.1; omega
    simp only [← hb0, ← hb1]
    clear hc_wa hf_wa hc_wx hf_wx hc_wz hf_wz
    have hw0 : b0 ≤ w.heap.size := by omega
    have hw0' : w.heap.size ≤ b0 := by omega
    have hw1 : b1 ≤ wz.heap.size := by omega
    have hw1' : wz.heap.size ≤ b1 := by omega
    replace hb0 := Lib.hid hb0
    replace hb1 := Lib.hid hb1
    have e0 : ¬ b0 = b1 := by omega
    have e1 : ¬ b0 + 1 = b1 := by omega
    have e2 : ¬ b0 + 1 + 1 = b1 := by omega
    have e3 : ¬ b1 = b0 := by omega
    have e4 : ¬ b1 = b0 + 1 := by omega
    have e5 : ¬ b1 = b0 + 1 + 1 := by omega
    refine wp_range_members (bs := b0 + 1 + 1 + 1) (s := s) (n₀ := b1) rfl hs2 ?_ ?_ ?_ ?_ (Nat.lt_of_lt_of_le htab (by omega)) (SetsI s 0 b1 wz) (SetsX s 0 b1 wz) ?_ ?_ ?_
      (fun A x => (A.setIfInBounds 79 (.int .i64 (x.val : Int))).setIfInBounds 16 (.int .i64 (x.val : Int))) ?_ ?_ ?_ ?_
    · simp; omega
    · simp; omega
    · exact cell_alloc1 _ (cell_alloc1 _ (cell_alloc1 _ kB))
    · exact (HTZ.out.below (Nat.le_refl _) (by repeat (first | with_reducible refine Below.drew ?_ | with_reducible refine below_drewN ?_ | with_reducible refine Below.alloc_ ?_ _ | with_reducible refine Below.setCell ?_ (by first | (simp; done) | (simp; omega)) _ | with_reducible exact Below.refl _ _ )))
    · exact setsI_own (by omega) (by simp; omega)
    · exact setsX_own (by omega) (by simp; omega)
    · (rw [hb1.out]; exact ⟨⟨0, by omega, rfl, by go_simp, by go_simp, by go_simp, by go_simp, by go_simp, by go_simp, fun _ => by simp⟩, (by repeat (first | with_reducible refine Below.drew ?_ | with_reducible refine below_drewN ?_ | with_reducible refine Below.alloc_ ?_ _ | with_reducible refine Below.setCell ?_ (by first | (simp; done) | (simp; omega)) _ | with_reducible exact Below.refl _ _ ))⟩)
    · intro l x W K hK
      simp only [List.setIfInBounds_toArray, List.set_cons_zero, List.set_cons_succ] at hK ⊢
      gi_wp2
      exact hK
    · rintro l pre x W ⟨⟨nx, h1, h2, k1, k2, k3, k4, k5, k6, k10⟩, hB⟩ hlen
      simp only [List.setIfInBounds_toArray, List.set_cons_zero, List.set_cons_succ]
      replace h2 := Lib.hid h2
      replace k10 := Lib.hid k10
      gi_wp2
      gi_loopg [] (32 - nx) (fun k wr => ∃ m : Nat, m + k = 32 ∧ nx ≤ m ∧ (∀ i, nx ≤ i → i < m → s.testBit i = false) ∧ wr.cell? ⟨b1 + 1, 0, none⟩ = some (.int .i64 m) ∧ wr.frozen? ⟨b1 + 1, 0, none⟩ = false ∧
        wr.cell? ⟨b1 + 1 + 1, 0, none⟩ = some (.int .i64 (pre.length : Nat)) ∧ wr.frozen? ⟨b1 + 1 + 1, 0, none⟩ = false ∧ wr.cell? ⟨b1, 0, none⟩ = some (.int .i64 0) ∧ wr.frozen? ⟨b1, 0, none⟩ = false ∧
        KeepsOthers W wr ∧ Below b1 W wr)
      case atStart => exact ⟨nx, by omega, Nat.le_refl _, fun i hi hj => by omega, k1, k2, k3, k4, k5, k6, KeepsOthers.refl _, Below.refl _ _⟩
      case round =>
        obtain ⟨m, g0, g1, g2, g3, g4, g5, g6, g7, g8, hKO, hBW⟩ := hrel
        have g9 : wr.cell? ⟨b0 + 1, 0, none⟩ = some (.int .u32 s) := ((hB.trans hBW).cell (p := ⟨b0 + 1, 0, none⟩) (by simp; omega)).trans kS
        have g10 : wr.cell? ⟨b0 + 1 + 1, 0, none⟩ = some (.bool false) := ((hB.trans hBW).cell (p := ⟨b0 + 1 + 1, 0, none⟩) (by simp; omega)).trans kR
        have g11 : wr.frozen? ⟨b0 + 1 + 1, 0, none⟩ = false := ((hB.trans hBW).frozen (p := ⟨b0 + 1 + 1, 0, none⟩) (by simp; omega)).trans fR
        replace g2 := Lib.hid g2
        replace hKO := Lib.hid hKO
        replace hBW := Lib.hid hBW
        by_cases hm : m < 32
        · have H := rhas_any s m wr hs2
          rw [hasB_bit hm] at H
          by_cases hbit : s.testBit m = true
          · rw [hbit] at H
            replace H := Lib.hid H
            replace hbit := Lib.hid hbit
            gi_wp2_with fail
            refine ⟨trivial, (CallsIn.inRound l (callsIn_wide.2 H.out)).mono ?_⟩
            rintro e w1 ⟨rfl, rfl⟩
            by_cases hx : x.val = m
            · have hx31 : (m : Int) ≤ 31 := by omega
              have hxm : ((x.val : Int) != (m : Int)) = false := by rw [hx]; simp
              have hx31' : ¬ 31 < (x.val : Int) := by omega
              have hnew : Hid ((pre ++ [x]).map Fin.val = (List.range (m + 1)).filter s.testBit) := Lib.hid (by rw [List.map_append, h2.out, next_take g1 g2.out hbit.out, List.map_cons, List.map_nil, hx])
              have hl2 : Hid (((pre ++ [x]).length : Int) = (pre.length : Int) + 1) := Lib.hid (by simp)
              by_cases hl : pre.length = 1
              · have hg : ((pre.length : Int) + 1 == 2) = true := by rw [hl]; rfl
                gi_wp2
                exact ⟨(hKO.out.trans (KeepsOthers.setCell _ _ _)).trans (KeepsOthers.setCell _ _ _), .inr ⟨rfl, rfl, by simp [hl],
                  (by first | exact cell_set2 (by first | (simp; done) | (simp; omega)) g5 | exact (cell_set2 (by first | (simp; done) | (simp; omega)) g5).trans (by rw [hl]; rfl)),
                  (World.cell?_setCell_far _ _ _ _ (by first | (simp; done) | (simp; omega))).trans ((World.cell?_setCell_far _ _ _ _ (by first | (simp; done) | (simp; omega))).trans g7), by rw [World.frozen?_setCell, World.frozen?_setCell]; exact g8,
                  ((hB.trans hBW.out).setCell (p := ⟨b1 + 1, 0, none⟩) (by simp) _).setCell (p := ⟨b1 + 1 + 1, 0, none⟩) (by simp; omega) _⟩⟩
              · have hl0 : pre.length = 0 := by have h_ := k10.out (by first | trivial | rfl); omega
                have hg : ((pre.length : Int) + 1 == 2) = false := by rw [hl0]; rfl
                replace hl0 := Lib.hid hl0
                clear hl
                gi_wp2
                exact ⟨(hKO.out.trans (KeepsOthers.setCell _ _ _)).trans (KeepsOthers.setCell _ _ _), (hBW.out.setCell (p := ⟨b1 + 1, 0, none⟩) (by simp) _).setCell (p := ⟨b1 + 1 + 1, 0, none⟩) (by simp; omega) _,
                  ⟨m + 1, by omega, hnew.out, (World.cell?_setCell_far _ _ _ _ (by first | (simp; done) | (simp; omega))).trans (World.cell?_setCell_same' _ _ _ (by rw [g3]; rfl)), by rw [World.frozen?_setCell, World.frozen?_setCell]; exact g4,
                    by rw [hl2.out]; exact cell_set2 (by first | (simp; done) | (simp; omega)) g5, by rw [World.frozen?_setCell, World.frozen?_setCell]; exact g6,
                    (World.cell?_setCell_far _ _ _ _ (by first | (simp; done) | (simp; omega))).trans ((World.cell?_setCell_far _ _ _ _ (by first | (simp; done) | (simp; omega))).trans g7), by rw [World.frozen?_setCell, World.frozen?_setCell]; exact g8,
                    by intro h_; first | (have h_' := hl0.out; rw [List.length_append]; simp only [List.length_cons, List.length_nil]; omega) | cases h_⟩, ((hB.trans hBW.out).setCell (p := ⟨b1 + 1, 0, none⟩) (by simp) _).setCell (p := ⟨b1 + 1 + 1, 0, none⟩) (by simp; omega) _⟩
            · have hxm : ((x.val : Int) != (m : Int)) = true := by simp; omega
              have hpre : Hid (¬ ((pre ++ [x]).map Fin.val <+: elems s)) := Lib.hid (fun h => by
                rw [List.map_append, h2.out] at h
                have := next_elem g1 (by omega) g2.out (.inr hbit.out) h
                exact hx this.2)
              gi_wp2
              exact ⟨hKO.out.trans (KeepsOthers.setCell _ _ _), .inl ⟨rfl, hpre.out⟩⟩
          · have hbit' : s.testBit m = false := by simpa using hbit
            rw [hbit'] at H
            replace H := Lib.hid H
            replace hbit := Lib.hid hbit'
            clear hbit'
            gi_wp2_with fail
            refine ⟨trivial, (CallsIn.inRound l (callsIn_wide.2 H.out)).mono ?_⟩
            rintro e w1 ⟨rfl, rfl⟩
            gi_wp2
            gi_roundg (32 - (m + 1))
            case measure => omega
            case rel =>
              exact ⟨m + 1, by omega, by omega, fun i hi hj => by
                  by_cases e : i = m
                  · rw [e]; exact hbit.out
                  · exact g2.out i hi (by omega),
                World.cell?_setCell_same' _ _ _ (by rw [g3]; rfl), by rw [World.frozen?_setCell]; exact g4,
                (World.cell?_setCell_far _ _ _ _ (by first | (simp; done) | (simp; omega))).trans g5, by rw [World.frozen?_setCell]; exact g6,
                (World.cell?_setCell_far _ _ _ _ (by first | (simp; done) | (simp; omega))).trans g7, by rw [World.frozen?_setCell]; exact g8,
                hKO.out.trans (KeepsOthers.setCell _ _ _), hBW.out.setCell (p := ⟨b1 + 1, 0, none⟩) (by simp) _⟩
        · obtain rfl : m = 32 := by omega
          replace g3 : wr.cell? ⟨b1 + 1, 0, none⟩ = some (.int .i64 32) := g3
          have hd32 : decide ((32 : Int) < 32) = false := rfl
          clear hm g0
          have hxm : ((x.val : Int) != (32 : Int)) = true := by have := x.isLt; simp; omega
          have hpre : Hid (¬ ((pre ++ [x]).map Fin.val <+: elems s)) := Lib.hid (fun h => by
            rw [List.map_append, h2.out] at h
            have := next_elem g1 (by omega) g2.out (.inl rfl) h
            omega)
          gi_wp2
          refine ⟨trivial, ?_⟩
          gi_wp2
          exact ⟨hKO.out.trans (KeepsOthers.setCell _ _ _), .inl ⟨rfl, hpre.out⟩⟩
    · rintro D ys W hD hys ⟨⟨nx, h1, h2, k1, k2, k3, k4, k5, k6, k10⟩, hB⟩ hK
      have hce : (ys.length : Int) = (cardB s : Nat) := by
        have h_ := congrArg List.length hys
        simp at h_
        rw [h_]; rfl
      have hc1 : ((cardB s : Nat) : Int) ≤ 1 := by have h_ := k10 rfl; omega
      rw [hce] at k3
      clear hys h1 h2 k1 k2 k10 hce
      replace kS : W.cell? ⟨b0 + 1, 0, none⟩ = some (.int .u32 s) := (hB.cell (p := ⟨b0 + 1, 0, none⟩) (by simp; omega)).trans kS
      replace kR : W.cell? ⟨b0 + 1 + 1, 0, none⟩ = some (.bool false) := (hB.cell (p := ⟨b0 + 1 + 1, 0, none⟩) (by simp; omega)).trans kR
      replace fR : W.frozen? ⟨b0 + 1 + 1, 0, none⟩ = false := (hB.frozen (p := ⟨b0 + 1 + 1, 0, none⟩) (by simp; omega)).trans fR
      replace kB : W.cell? ⟨b0 + 1 + 1 + 1, 0, none⟩ = some (.int .u32 s) := (hB.cell (p := ⟨b0 + 1 + 1 + 1, 0, none⟩) (by simp; omega)).trans kB
      have HTW : Hid (Tab W) := Lib.hid (HTZ.out.below hw1' hB)
      have hBW0 : Hid (Below b0 w W) := Lib.hid (hBz.out.trans (hB.mono (by omega)))
      have hWs := hB.size
      have hDs : D < W.heap.size := (Array.getElem?_eq_some_iff.1 hK).1
      replace hK := Lib.hid hK
      clear hB
      go_wp2_with fail
      refine (rcount_any s _ hs2).mono ?_
      rintro e w1 ⟨rfl, rfl⟩
      go_wp2
      clear k3 k4 k5 k6 hc1
      rw [rounds_succ]
      go_wp2
      obtain ⟨b2, hb2⟩ : ∃ b2, b2 = W.heap.size := ⟨_, rfl⟩
      simp only [← hb2]
      have hw2 : b2 ≤ W.heap.size := by omega
      have hw2' : W.heap.size ≤ b2 := by omega
      have hlt2 : b0 + 1 + 1 + 1 < b2 := by omega
      replace hb2 := Lib.hid hb2
      have e0 : ¬ b0 = b2 := by omega
      have e1 : ¬ b0 + 1 = b2 := by omega
      have e2 : ¬ b0 + 1 + 1 = b2 := by omega
      have e3 : ¬ b2 = b0 := by omega
      have e4 : ¬ b2 = b0 + 1 := by omega
      have e5 : ¬ b2 = b0 + 1 + 1 := by omega
      refine wp_range_members (bs := b0 + 1 + 1 + 1) (s := s) (n₀ := b2) rfl hs2 ?_ ?_ ?_ ?_ (Nat.lt_of_lt_of_le htab (by omega)) (SetsI s 1 b2 W) (SetsX s 1 b2 W) ?_ ?_ ?_
        (fun A x => (A.setIfInBounds 79 (.int .i64 (x.val : Int))).setIfInBounds 16 (.int .i64 (x.val : Int))) ?_ ?_ ?_ ?_
      · simp; omega
      · simp; omega
      · exact cell_alloc1 _ (cell_alloc1 _ (cell_alloc1 _ kB))
      · exact (HTW.out.below (Nat.le_refl _) (by repeat (first | with_reducible refine Below.drew ?_ | with_reducible refine below_drewN ?_ | with_reducible refine Below.alloc_ ?_ _ | with_reducible refine Below.setCell ?_ (by first | (simp; done) | (simp; omega)) _ | with_reducible exact Below.refl _ _ )))
      · exact setsI_own (by omega) (by simp; omega)
      · exact setsX_own (by omega) (by simp; omega)
      · (rw [hb2.out]; exact ⟨⟨0, by omega, rfl, by go_simp, by go_simp, by go_simp, by go_simp, by go_simp, by go_simp, fun h_ => by cases h_⟩, (by repeat (first | with_reducible refine Below.drew ?_ | with_reducible refine below_drewN ?_ | with_reducible refine Below.alloc_ ?_ _ | with_reducible refine Below.setCell ?_ (by first | (simp; done) | (simp; omega)) _ | with_reducible exact Below.refl _ _ ))⟩)
      · intro l x W K hK
        simp only [List.setIfInBounds_toArray, List.set_cons_zero, List.set_cons_succ] at hK ⊢
        gi_wp2
        exact hK
      · rintro l pre x W ⟨⟨nx, h1, h2, k1, k2, k3, k4, k5, k6, k10⟩, hB⟩ hlen
        simp only [List.setIfInBounds_toArray, List.set_cons_zero, List.set_cons_succ]
        replace h2 := Lib.hid h2
        replace k10 := Lib.hid k10
        gi_wp2
        gi_loopg [] (32 - nx) (fun k wr => ∃ m : Nat, m + k = 32 ∧ nx ≤ m ∧ (∀ i, nx ≤ i → i < m → s.testBit i = false) ∧ wr.cell? ⟨b2 + 1, 0, none⟩ = some (.int .i64 m) ∧ wr.frozen? ⟨b2 + 1, 0, none⟩ = false ∧
          wr.cell? ⟨b2 + 1 + 1, 0, none⟩ = some (.int .i64 (pre.length : Nat)) ∧ wr.frozen? ⟨b2 + 1 + 1, 0, none⟩ = false ∧ wr.cell? ⟨b2, 0, none⟩ = some (.int .i64 1) ∧ wr.frozen? ⟨b2, 0, none⟩ = false ∧
          KeepsOthers W wr ∧ Below b2 W wr)
        case atStart => exact ⟨nx, by omega, Nat.le_refl _, fun i hi hj => by omega, k1, k2, k3, k4, k5, k6, KeepsOthers.refl _, Below.refl _ _⟩
        case round =>
          obtain ⟨m, g0, g1, g2, g3, g4, g5, g6, g7, g8, hKO, hBW⟩ := hrel
          have g9 : wr.cell? ⟨b0 + 1, 0, none⟩ = some (.int .u32 s) := ((hB.trans hBW).cell (p := ⟨b0 + 1, 0, none⟩) (by simp; omega)).trans kS
          have g10 : wr.cell? ⟨b0 + 1 + 1, 0, none⟩ = some (.bool false) := ((hB.trans hBW).cell (p := ⟨b0 + 1 + 1, 0, none⟩) (by simp; omega)).trans kR
          have g11 : wr.frozen? ⟨b0 + 1 + 1, 0, none⟩ = false := ((hB.trans hBW).frozen (p := ⟨b0 + 1 + 1, 0, none⟩) (by simp; omega)).trans fR
          replace g2 := Lib.hid g2
          replace hKO := Lib.hid hKO
          replace hBW := Lib.hid hBW
          by_cases hm : m < 32
          · have H := rhas_any s m wr hs2
            rw [hasB_bit hm] at H
            by_cases hbit : s.testBit m = true
            · rw [hbit] at H
              replace H := Lib.hid H
              replace hbit := Lib.hid hbit
              gi_wp2_with fail
              refine ⟨trivial, (CallsIn.inRound l (callsIn_wide.2 H.out)).mono ?_⟩
              rintro e w1 ⟨rfl, rfl⟩
              by_cases hx : x.val = m
              · have hx31 : (m : Int) ≤ 31 := by omega
                have hxm : ((x.val : Int) != (m : Int)) = false := by rw [hx]; simp
                have hx31' : ¬ 31 < (x.val : Int) := by omega
                have hnew : Hid ((pre ++ [x]).map Fin.val = (List.range (m + 1)).filter s.testBit) := Lib.hid (by rw [List.map_append, h2.out, next_take g1 g2.out hbit.out, List.map_cons, List.map_nil, hx])
                have hl2 : Hid (((pre ++ [x]).length : Int) = (pre.length : Int) + 1) := Lib.hid (by simp)
                have hl0 : Hid True := Lib.hid trivial
                gi_wp2
                exact ⟨(hKO.out.trans (KeepsOthers.setCell _ _ _)).trans (KeepsOthers.setCell _ _ _), (hBW.out.setCell (p := ⟨b2 + 1, 0, none⟩) (by simp) _).setCell (p := ⟨b2 + 1 + 1, 0, none⟩) (by simp; omega) _,
                  ⟨m + 1, by omega, hnew.out, (World.cell?_setCell_far _ _ _ _ (by first | (simp; done) | (simp; omega))).trans (World.cell?_setCell_same' _ _ _ (by rw [g3]; rfl)), by rw [World.frozen?_setCell, World.frozen?_setCell]; exact g4,
                    by rw [hl2.out]; exact cell_set2 (by first | (simp; done) | (simp; omega)) g5, by rw [World.frozen?_setCell, World.frozen?_setCell]; exact g6,
                    (World.cell?_setCell_far _ _ _ _ (by first | (simp; done) | (simp; omega))).trans ((World.cell?_setCell_far _ _ _ _ (by first | (simp; done) | (simp; omega))).trans g7), by rw [World.frozen?_setCell, World.frozen?_setCell]; exact g8,
                    by intro h_; first | (have h_' := hl0.out; rw [List.length_append]; simp only [List.length_cons, List.length_nil]; omega) | cases h_⟩, ((hB.trans hBW.out).setCell (p := ⟨b2 + 1, 0, none⟩) (by simp) _).setCell (p := ⟨b2 + 1 + 1, 0, none⟩) (by simp; omega) _⟩
              · have hxm : ((x.val : Int) != (m : Int)) = true := by simp; omega
                have hpre : Hid (¬ ((pre ++ [x]).map Fin.val <+: elems s)) := Lib.hid (fun h => by
                  rw [List.map_append, h2.out] at h
                  have := next_elem g1 (by omega) g2.out (.inr hbit.out) h
                  exact hx this.2)
                gi_wp2
                exact ⟨hKO.out.trans (KeepsOthers.setCell _ _ _), .inl ⟨rfl, hpre.out⟩⟩
            · have hbit' : s.testBit m = false := by simpa using hbit
              rw [hbit'] at H
              replace H := Lib.hid H
              replace hbit := Lib.hid hbit'
              clear hbit'
              gi_wp2_with fail
              refine ⟨trivial, (CallsIn.inRound l (callsIn_wide.2 H.out)).mono ?_⟩
              rintro e w1 ⟨rfl, rfl⟩
              gi_wp2
              gi_roundg (32 - (m + 1))
              case measure => omega
              case rel =>
                exact ⟨m + 1, by omega, by omega, fun i hi hj => by
                    by_cases e : i = m
                    · rw [e]; exact hbit.out
                    · exact g2.out i hi (by omega),
                  World.cell?_setCell_same' _ _ _ (by rw [g3]; rfl), by rw [World.frozen?_setCell]; exact g4,
                  (World.cell?_setCell_far _ _ _ _ (by first | (simp; done) | (simp; omega))).trans g5, by rw [World.frozen?_setCell]; exact g6,
                  (World.cell?_setCell_far _ _ _ _ (by first | (simp; done) | (simp; omega))).trans g7, by rw [World.frozen?_setCell]; exact g8,
                  hKO.out.trans (KeepsOthers.setCell _ _ _), hBW.out.setCell (p := ⟨b2 + 1, 0, none⟩) (by simp) _⟩
          · obtain rfl : m = 32 := by omega
            replace g3 : wr.cell? ⟨b2 + 1, 0, none⟩ = some (.int .i64 32) := g3
            have hd32 : decide ((32 : Int) < 32) = false := rfl
            clear hm g0
            have hxm : ((x.val : Int) != (32 : Int)) = true := by have := x.isLt; simp; omega
            have hpre : Hid (¬ ((pre ++ [x]).map Fin.val <+: elems s)) := Lib.hid (fun h => by
              rw [List.map_append, h2.out] at h
              have := next_elem g1 (by omega) g2.out (.inl rfl) h
              omega)
            gi_wp2
            refine ⟨trivial, ?_⟩
            gi_wp2
            exact ⟨hKO.out.trans (KeepsOthers.setCell _ _ _), .inl ⟨rfl, hpre.out⟩⟩
      · rintro D2 ys W2 hD2 hys ⟨⟨nx, h1, h2, k1, k2, k3, k4, k5, k6, k10⟩, hB⟩ hK2
        have hce : (ys.length : Int) = (cardB s : Nat) := by
          have h_ := congrArg List.length hys
          simp at h_
          rw [h_]; rfl
        rw [hce] at k3
        clear hys h1 h2 k1 k2 k10 hce
        replace kS : W2.cell? ⟨b0 + 1, 0, none⟩ = some (.int .u32 s) := (hB.cell (p := ⟨b0 + 1, 0, none⟩) (by simp; omega)).trans kS
        replace kR : W2.cell? ⟨b0 + 1 + 1, 0, none⟩ = some (.bool false) := (hB.cell (p := ⟨b0 + 1 + 1, 0, none⟩) (by simp; omega)).trans kR
        replace fR : W2.frozen? ⟨b0 + 1 + 1, 0, none⟩ = false := (hB.frozen (p := ⟨b0 + 1 + 1, 0, none⟩) (by simp; omega)).trans fR
        have hB2 : Hid (Below b0 w W2) := Lib.hid (hBW0.out.trans (hB.mono (by omega)))
        have hKW : Hid (W2.heap[D]? = some (.deferred (some []))) := Lib.hid ((hB.block D (by omega)).trans hK.out)
        have hWs2 := hB.size
        have l1 : b0 + 1 < W2.heap.size := by omega
        have l2 : b0 + 1 + 1 < W2.heap.size := by omega
        have l3 : ¬ b0 + 1 + 1 = W2.heap.size := by omega
        have l4 : ¬ W2.heap.size = b0 + 1 + 1 := by omega
        replace hK2 := Lib.hid hK2
        clear hB
        go_wp2_with fail
        refine (rcount_any s _ hs2).mono ?_
        rintro e w1 ⟨rfl, rfl⟩
        go_wp2
        rw [rounds_succ]
        go_wp2
        simp at hD2 hD
        have q2 := ((KeepsOthers.setCell W2 ⟨b0 + 1 + 1, 0, none⟩ (.bool true)).trans (KeepsOthers.alloc (W2.setCell ⟨b0 + 1 + 1, 0, none⟩ (.bool true)) (.cells #[.int .i64 2] 3))).same D2 _ hK2.out rfl
        have q1 := ((KeepsOthers.setCell W2 ⟨b0 + 1 + 1, 0, none⟩ (.bool true)).trans (KeepsOthers.alloc (W2.setCell ⟨b0 + 1 + 1, 0, none⟩ (.bool true)) (.cells #[.int .i64 2] 3))).same D _ hKW.out rfl
        have q0 : ((W2.setCell ⟨b0 + 1 + 1, 0, none⟩ (.bool true)).alloc (.cells #[.int .i64 2] 3)).cell? ⟨b0 + 1 + 1, 0, none⟩ = some (.bool true) := cell_alloc1 _ (World.cell?_setCell_same' _ _ _ (by rw [kR]; rfl))
        have qB : Below b0 w ((W2.setCell ⟨b0 + 1 + 1, 0, none⟩ (.bool true)).alloc (.cells #[.int .i64 2] 3)) := (hB2.out.setCell (p := ⟨b0 + 1 + 1, 0, none⟩) (by simp; omega) _).alloc (by simp [World.setCell]; omega) _
        generalize (W2.setCell ⟨b0 + 1 + 1, 0, none⟩ (.bool true)).alloc (.cells #[.int .i64 2] 3) = F at q2 q1 q0 qB ⊢
        have q1' : (F.putObj D2 (.deferred none)).heap[D]? = some (.deferred (some [])) := (World.putObj_heap_other (by omega)).trans q1
        have q0' := cell_kept (cell_kept q0 (grownBy_putObj' _ D2 (.deferred none)) (fun r e => by cases e; exact ⟨_, q2, rfl⟩)) (grownBy_putObj' _ D (.deferred none)) (fun r e => by cases e; exact ⟨_, q1', rfl⟩)
        have qB' := (qB.trans (belowK_b (n₀ := b0) (w := w) hw0 F D2 _ (.deferred none) (by omega) q2 rfl rfl)).trans (belowK_b (n₀ := b0) (w := w) hw0 _ D _ (.deferred none) (by omega) q1' rfl rfl)
        rw [hb0.out] at qB'
        refine ⟨by simp, .inl ⟨_, _, rfl, run_takeDeferred q2, ?_⟩⟩
        refine ⟨by simp, .inl ⟨_, _, rfl, run_takeDeferred q1', ?_⟩⟩
        refine ⟨.bool true, ?_, rfl, qB'⟩
        simp [results, Tryd.f3, go_sem, q0']
      · rintro D2 c2 pre2 W2 hD2 hpre2 (⟨rfl, hn⟩ | ⟨_, h_, _⟩) hK2
        · exact absurd hpre2 hn
        · cases h_
    · rintro D c pre W hD hpre (⟨rfl, hn⟩ | ⟨rfl, _, hl, k3, k5, k6, hB⟩) hK
      · exact absurd hpre hn
      · have hc2 : 2 ≤ ((cardB s : Nat) : Int) := by
          have h_ := hpre.length_le
          simp [hl] at h_
          have h_' : (elems s).length = cardB s := rfl
          omega
        clear hpre hl
        replace kS : W.cell? ⟨b0 + 1, 0, none⟩ = some (.int .u32 s) := (hB.cell (p := ⟨b0 + 1, 0, none⟩) (by simp; omega)).trans kS
        replace kR : W.cell? ⟨b0 + 1 + 1, 0, none⟩ = some (.bool false) := (hB.cell (p := ⟨b0 + 1 + 1, 0, none⟩) (by simp; omega)).trans kR
        replace fR : W.frozen? ⟨b0 + 1 + 1, 0, none⟩ = false := (hB.frozen (p := ⟨b0 + 1 + 1, 0, none⟩) (by simp; omega)).trans fR
        replace kB : W.cell? ⟨b0 + 1 + 1 + 1, 0, none⟩ = some (.int .u32 s) := (hB.cell (p := ⟨b0 + 1 + 1 + 1, 0, none⟩) (by simp; omega)).trans kB
        have HTW : Hid (Tab W) := Lib.hid (HTZ.out.below hw1' hB)
        have hBW0 : Hid (Below b0 w W) := Lib.hid (hBz.out.trans (hB.mono (by omega)))
        have hWs := hB.size
        have hDs : D < W.heap.size := (Array.getElem?_eq_some_iff.1 hK).1
        replace hK := Lib.hid hK
        clear hB
        go_wp2_with fail
        refine (rcount_any s _ hs2).mono ?_
        rintro e w1 ⟨rfl, rfl⟩
        by_cases hw : 2 < ((cardB s : Nat) : Int)
        · go_wp2
          clear k3 k5 k6 hc2 hw
          rw [rounds_succ]
          go_wp2
          obtain ⟨b2, hb2⟩ : ∃ b2, b2 = W.heap.size := ⟨_, rfl⟩
          simp only [← hb2]
          have hw2 : b2 ≤ W.heap.size := by omega
          have hw2' : W.heap.size ≤ b2 := by omega
          have hlt2 : b0 + 1 + 1 + 1 < b2 := by omega
          replace hb2 := Lib.hid hb2
          have e0 : ¬ b0 = b2 := by omega
          have e1 : ¬ b0 + 1 = b2 := by omega
          have e2 : ¬ b0 + 1 + 1 = b2 := by omega
          have e3 : ¬ b2 = b0 := by omega
          have e4 : ¬ b2 = b0 + 1 := by omega
          have e5 : ¬ b2 = b0 + 1 + 1 := by omega
          refine wp_range_members (bs := b0 + 1 + 1 + 1) (s := s) (n₀ := b2) rfl hs2 ?_ ?_ ?_ ?_ (Nat.lt_of_lt_of_le htab (by omega)) (SetsI s 1 b2 W) (SetsX s 1 b2 W) ?_ ?_ ?_
            (fun A x => (A.setIfInBounds 79 (.int .i64 (x.val : Int))).setIfInBounds 16 (.int .i64 (x.val : Int))) ?_ ?_ ?_ ?_
          · simp; omega
          · simp; omega
          · exact cell_alloc1 _ (cell_alloc1 _ (cell_alloc1 _ kB))
          · exact (HTW.out.below (Nat.le_refl _) (by repeat (first | with_reducible refine Below.drew ?_ | with_reducible refine below_drewN ?_ | with_reducible refine Below.alloc_ ?_ _ | with_reducible refine Below.setCell ?_ (by first | (simp; done) | (simp; omega)) _ | with_reducible exact Below.refl _ _ )))
          · exact setsI_own (by omega) (by simp; omega)
          · exact setsX_own (by omega) (by simp; omega)
          · (rw [hb2.out]; exact ⟨⟨0, by omega, rfl, by go_simp, by go_simp, by go_simp, by go_simp, by go_simp, by go_simp, fun h_ => by cases h_⟩, (by repeat (first | with_reducible refine Below.drew ?_ | with_reducible refine below_drewN ?_ | with_reducible refine Below.alloc_ ?_ _ | with_reducible refine Below.setCell ?_ (by first | (simp; done) | (simp; omega)) _ | with_reducible exact Below.refl _ _ ))⟩)
          · intro l x W K hK
            simp only [List.setIfInBounds_toArray, List.set_cons_zero, List.set_cons_succ] at hK ⊢
            gi_wp2
            exact hK
          · rintro l pre x W ⟨⟨nx, h1, h2, k1, k2, k3, k4, k5, k6, k10⟩, hB⟩ hlen
            simp only [List.setIfInBounds_toArray, List.set_cons_zero, List.set_cons_succ]
            replace h2 := Lib.hid h2
            replace k10 := Lib.hid k10
            gi_wp2
            gi_loopg [] (32 - nx) (fun k wr => ∃ m : Nat, m + k = 32 ∧ nx ≤ m ∧ (∀ i, nx ≤ i → i < m → s.testBit i = false) ∧ wr.cell? ⟨b2 + 1, 0, none⟩ = some (.int .i64 m) ∧ wr.frozen? ⟨b2 + 1, 0, none⟩ = false ∧
              wr.cell? ⟨b2 + 1 + 1, 0, none⟩ = some (.int .i64 (pre.length : Nat)) ∧ wr.frozen? ⟨b2 + 1 + 1, 0, none⟩ = false ∧ wr.cell? ⟨b2, 0, none⟩ = some (.int .i64 1) ∧ wr.frozen? ⟨b2, 0, none⟩ = false ∧
              KeepsOthers W wr ∧ Below b2 W wr)
            case atStart => exact ⟨nx, by omega, Nat.le_refl _, fun i hi hj => by omega, k1, k2, k3, k4, k5, k6, KeepsOthers.refl _, Below.refl _ _⟩
            case round =>
              obtain ⟨m, g0, g1, g2, g3, g4, g5, g6, g7, g8, hKO, hBW⟩ := hrel
              have g9 : wr.cell? ⟨b0 + 1, 0, none⟩ = some (.int .u32 s) := ((hB.trans hBW).cell (p := ⟨b0 + 1, 0, none⟩) (by simp; omega)).trans kS
              have g10 : wr.cell? ⟨b0 + 1 + 1, 0, none⟩ = some (.bool false) := ((hB.trans hBW).cell (p := ⟨b0 + 1 + 1, 0, none⟩) (by simp; omega)).trans kR
              have g11 : wr.frozen? ⟨b0 + 1 + 1, 0, none⟩ = false := ((hB.trans hBW).frozen (p := ⟨b0 + 1 + 1, 0, none⟩) (by simp; omega)).trans fR
              replace g2 := Lib.hid g2
              replace hKO := Lib.hid hKO
              replace hBW := Lib.hid hBW
              by_cases hm : m < 32
              · have H := rhas_any s m wr hs2
                rw [hasB_bit hm] at H
                by_cases hbit : s.testBit m = true
                · rw [hbit] at H
                  replace H := Lib.hid H
                  replace hbit := Lib.hid hbit
                  gi_wp2_with fail
                  refine ⟨trivial, (CallsIn.inRound l (callsIn_wide.2 H.out)).mono ?_⟩
                  rintro e w1 ⟨rfl, rfl⟩
                  by_cases hx : x.val = m
                  · have hx31 : (m : Int) ≤ 31 := by omega
                    have hxm : ((x.val : Int) != (m : Int)) = false := by rw [hx]; simp
                    have hx31' : ¬ 31 < (x.val : Int) := by omega
                    have hnew : Hid ((pre ++ [x]).map Fin.val = (List.range (m + 1)).filter s.testBit) := Lib.hid (by rw [List.map_append, h2.out, next_take g1 g2.out hbit.out, List.map_cons, List.map_nil, hx])
                    have hl2 : Hid (((pre ++ [x]).length : Int) = (pre.length : Int) + 1) := Lib.hid (by simp)
                    have hl0 : Hid True := Lib.hid trivial
                    gi_wp2
                    exact ⟨(hKO.out.trans (KeepsOthers.setCell _ _ _)).trans (KeepsOthers.setCell _ _ _), (hBW.out.setCell (p := ⟨b2 + 1, 0, none⟩) (by simp) _).setCell (p := ⟨b2 + 1 + 1, 0, none⟩) (by simp; omega) _,
                      ⟨m + 1, by omega, hnew.out, (World.cell?_setCell_far _ _ _ _ (by first | (simp; done) | (simp; omega))).trans (World.cell?_setCell_same' _ _ _ (by rw [g3]; rfl)), by rw [World.frozen?_setCell, World.frozen?_setCell]; exact g4,
                        by rw [hl2.out]; exact cell_set2 (by first | (simp; done) | (simp; omega)) g5, by rw [World.frozen?_setCell, World.frozen?_setCell]; exact g6,
                        (World.cell?_setCell_far _ _ _ _ (by first | (simp; done) | (simp; omega))).trans ((World.cell?_setCell_far _ _ _ _ (by first | (simp; done) | (simp; omega))).trans g7), by rw [World.frozen?_setCell, World.frozen?_setCell]; exact g8,
                        by intro h_; first | (have h_' := hl0.out; rw [List.length_append]; simp only [List.length_cons, List.length_nil]; omega) | cases h_⟩, ((hB.trans hBW.out).setCell (p := ⟨b2 + 1, 0, none⟩) (by simp) _).setCell (p := ⟨b2 + 1 + 1, 0, none⟩) (by simp; omega) _⟩
                  · have hxm : ((x.val : Int) != (m : Int)) = true := by simp; omega
                    have hpre : Hid (¬ ((pre ++ [x]).map Fin.val <+: elems s)) := Lib.hid (fun h => by
                      rw [List.map_append, h2.out] at h
                      have := next_elem g1 (by omega) g2.out (.inr hbit.out) h
                      exact hx this.2)
                    gi_wp2
                    exact ⟨hKO.out.trans (KeepsOthers.setCell _ _ _), .inl ⟨rfl, hpre.out⟩⟩
                · have hbit' : s.testBit m = false := by simpa using hbit
                  rw [hbit'] at H
                  replace H := Lib.hid H
                  replace hbit := Lib.hid hbit'
                  clear hbit'
                  gi_wp2_with fail
                  refine ⟨trivial, (CallsIn.inRound l (callsIn_wide.2 H.out)).mono ?_⟩
                  rintro e w1 ⟨rfl, rfl⟩
                  gi_wp2
                  gi_roundg (32 - (m + 1))
                  case measure => omega
                  case rel =>
                    exact ⟨m + 1, by omega, by omega, fun i hi hj => by
                        by_cases e : i = m
                        · rw [e]; exact hbit.out
                        · exact g2.out i hi (by omega),
                      World.cell?_setCell_same' _ _ _ (by rw [g3]; rfl), by rw [World.frozen?_setCell]; exact g4,
                      (World.cell?_setCell_far _ _ _ _ (by first | (simp; done) | (simp; omega))).trans g5, by rw [World.frozen?_setCell]; exact g6,
                      (World.cell?_setCell_far _ _ _ _ (by first | (simp; done) | (simp; omega))).trans g7, by rw [World.frozen?_setCell]; exact g8,
                      hKO.out.trans (KeepsOthers.setCell _ _ _), hBW.out.setCell (p := ⟨b2 + 1, 0, none⟩) (by simp) _⟩
              · obtain rfl : m = 32 := by omega
                replace g3 : wr.cell? ⟨b2 + 1, 0, none⟩ = some (.int .i64 32) := g3
                have hd32 : decide ((32 : Int) < 32) = false := rfl
                clear hm g0
                have hxm : ((x.val : Int) != (32 : Int)) = true := by have := x.isLt; simp; omega
                have hpre : Hid (¬ ((pre ++ [x]).map Fin.val <+: elems s)) := Lib.hid (fun h => by
                  rw [List.map_append, h2.out] at h
                  have := next_elem g1 (by omega) g2.out (.inl rfl) h
                  omega)
                gi_wp2
                refine ⟨trivial, ?_⟩
                gi_wp2
                exact ⟨hKO.out.trans (KeepsOthers.setCell _ _ _), .inl ⟨rfl, hpre.out⟩⟩
          · rintro D2 ys W2 hD2 hys ⟨⟨nx, h1, h2, k1, k2, k3, k4, k5, k6, k10⟩, hB⟩ hK2
            have hce : (ys.length : Int) = (cardB s : Nat) := by
              have h_ := congrArg List.length hys
              simp at h_
              rw [h_]; rfl
            rw [hce] at k3
            clear hys h1 h2 k1 k2 k10 hce
            replace kS : W2.cell? ⟨b0 + 1, 0, none⟩ = some (.int .u32 s) := (hB.cell (p := ⟨b0 + 1, 0, none⟩) (by simp; omega)).trans kS
            replace kR : W2.cell? ⟨b0 + 1 + 1, 0, none⟩ = some (.bool false) := (hB.cell (p := ⟨b0 + 1 + 1, 0, none⟩) (by simp; omega)).trans kR
            replace fR : W2.frozen? ⟨b0 + 1 + 1, 0, none⟩ = false := (hB.frozen (p := ⟨b0 + 1 + 1, 0, none⟩) (by simp; omega)).trans fR
            have hB2 : Hid (Below b0 w W2) := Lib.hid (hBW0.out.trans (hB.mono (by omega)))
            have hKW : Hid (W2.heap[D]? = some (.deferred (some []))) := Lib.hid ((hB.block D (by omega)).trans hK.out)
            have hWs2 := hB.size
            have l1 : b0 + 1 < W2.heap.size := by omega
            have l2 : b0 + 1 + 1 < W2.heap.size := by omega
            have l3 : ¬ b0 + 1 + 1 = W2.heap.size := by omega
            have l4 : ¬ W2.heap.size = b0 + 1 + 1 := by omega
            replace hK2 := Lib.hid hK2
            clear hB
            go_wp2_with fail
            refine (rcount_any s _ hs2).mono ?_
            rintro e w1 ⟨rfl, rfl⟩
            go_wp2
            rw [rounds_succ]
            go_wp2
            simp at hD2 hD
            have q2 := ((KeepsOthers.setCell W2 ⟨b0 + 1 + 1, 0, none⟩ (.bool true)).trans (KeepsOthers.alloc (W2.setCell ⟨b0 + 1 + 1, 0, none⟩ (.bool true)) (.cells #[.int .i64 2] 3))).same D2 _ hK2.out rfl
            have q1 := ((KeepsOthers.setCell W2 ⟨b0 + 1 + 1, 0, none⟩ (.bool true)).trans (KeepsOthers.alloc (W2.setCell ⟨b0 + 1 + 1, 0, none⟩ (.bool true)) (.cells #[.int .i64 2] 3))).same D _ hKW.out rfl
            have q0 : ((W2.setCell ⟨b0 + 1 + 1, 0, none⟩ (.bool true)).alloc (.cells #[.int .i64 2] 3)).cell? ⟨b0 + 1 + 1, 0, none⟩ = some (.bool true) := cell_alloc1 _ (World.cell?_setCell_same' _ _ _ (by rw [kR]; rfl))
            have qB : Below b0 w ((W2.setCell ⟨b0 + 1 + 1, 0, none⟩ (.bool true)).alloc (.cells #[.int .i64 2] 3)) := (hB2.out.setCell (p := ⟨b0 + 1 + 1, 0, none⟩) (by simp; omega) _).alloc (by simp [World.setCell]; omega) _
            generalize (W2.setCell ⟨b0 + 1 + 1, 0, none⟩ (.bool true)).alloc (.cells #[.int .i64 2] 3) = F at q2 q1 q0 qB ⊢
            have q1' : (F.putObj D2 (.deferred none)).heap[D]? = some (.deferred (some [])) := (World.putObj_heap_other (by omega)).trans q1
            have q0' := cell_kept (cell_kept q0 (grownBy_putObj' _ D2 (.deferred none)) (fun r e => by cases e; exact ⟨_, q2, rfl⟩)) (grownBy_putObj' _ D (.deferred none)) (fun r e => by cases e; exact ⟨_, q1', rfl⟩)
            have qB' := (qB.trans (belowK_b (n₀ := b0) (w := w) hw0 F D2 _ (.deferred none) (by omega) q2 rfl rfl)).trans (belowK_b (n₀ := b0) (w := w) hw0 _ D _ (.deferred none) (by omega) q1' rfl rfl)
            rw [hb0.out] at qB'
            refine ⟨by simp, .inl ⟨_, _, rfl, run_takeDeferred q2, ?_⟩⟩
            refine ⟨by simp, .inl ⟨_, _, rfl, run_takeDeferred q1', ?_⟩⟩
            refine ⟨.bool true, ?_, rfl, qB'⟩
            simp [results, Tryd.f3, go_sem, q0']
          · rintro D2 c2 pre2 W2 hD2 hpre2 (⟨rfl, hn⟩ | ⟨_, h_, _⟩) hK2
            · exact absurd hpre2 hn
            · cases h_
        · have hne : ((2 : Int) != ((cardB s : Nat) : Int)) = false := by simp; omega
          go_wp2
          clear k3 k5 k6 hc2 hw hne
          rw [rounds_succ]
          go_wp2
          obtain ⟨b2, hb2⟩ : ∃ b2, b2 = W.heap.size := ⟨_, rfl⟩
          simp only [← hb2]
          have hw2 : b2 ≤ W.heap.size := by omega
          have hw2' : W.heap.size ≤ b2 := by omega
          have hlt2 : b0 + 1 + 1 + 1 < b2 := by omega
          replace hb2 := Lib.hid hb2
          have e0 : ¬ b0 = b2 := by omega
          have e1 : ¬ b0 + 1 = b2 := by omega
          have e2 : ¬ b0 + 1 + 1 = b2 := by omega
          have e3 : ¬ b2 = b0 := by omega
          have e4 : ¬ b2 = b0 + 1 := by omega
          have e5 : ¬ b2 = b0 + 1 + 1 := by omega
          refine wp_range_members (bs := b0 + 1 + 1 + 1) (s := s) (n₀ := b2) rfl hs2 ?_ ?_ ?_ ?_ (Nat.lt_of_lt_of_le htab (by omega)) (SetsI s 1 b2 W) (SetsX s 1 b2 W) ?_ ?_ ?_
            (fun A x => (A.setIfInBounds 79 (.int .i64 (x.val : Int))).setIfInBounds 16 (.int .i64 (x.val : Int))) ?_ ?_ ?_ ?_
          · simp; omega
          · simp; omega
          · exact cell_alloc1 _ (cell_alloc1 _ (cell_alloc1 _ kB))
          · exact (HTW.out.below (Nat.le_refl _) (by repeat (first | with_reducible refine Below.drew ?_ | with_reducible refine below_drewN ?_ | with_reducible refine Below.alloc_ ?_ _ | with_reducible refine Below.setCell ?_ (by first | (simp; done) | (simp; omega)) _ | with_reducible exact Below.refl _ _ )))
          · exact setsI_own (by omega) (by simp; omega)
          · exact setsX_own (by omega) (by simp; omega)
          · (rw [hb2.out]; exact ⟨⟨0, by omega, rfl, by go_simp, by go_simp, by go_simp, by go_simp, by go_simp, by go_simp, fun h_ => by cases h_⟩, (by repeat (first | with_reducible refine Below.drew ?_ | with_reducible refine below_drewN ?_ | with_reducible refine Below.alloc_ ?_ _ | with_reducible refine Below.setCell ?_ (by first | (simp; done) | (simp; omega)) _ | with_reducible exact Below.refl _ _ ))⟩)
          · intro l x W K hK
            simp only [List.setIfInBounds_toArray, List.set_cons_zero, List.set_cons_succ] at hK ⊢
            gi_wp2
            exact hK
          · rintro l pre x W ⟨⟨nx, h1, h2, k1, k2, k3, k4, k5, k6, k10⟩, hB⟩ hlen
            simp only [List.setIfInBounds_toArray, List.set_cons_zero, List.set_cons_succ]
            replace h2 := Lib.hid h2
            replace k10 := Lib.hid k10
            gi_wp2
            gi_loopg [] (32 - nx) (fun k wr => ∃ m : Nat, m + k = 32 ∧ nx ≤ m ∧ (∀ i, nx ≤ i → i < m → s.testBit i = false) ∧ wr.cell? ⟨b2 + 1, 0, none⟩ = some (.int .i64 m) ∧ wr.frozen? ⟨b2 + 1, 0, none⟩ = false ∧
              wr.cell? ⟨b2 + 1 + 1, 0, none⟩ = some (.int .i64 (pre.length : Nat)) ∧ wr.frozen? ⟨b2 + 1 + 1, 0, none⟩ = false ∧ wr.cell? ⟨b2, 0, none⟩ = some (.int .i64 1) ∧ wr.frozen? ⟨b2, 0, none⟩ = false ∧
              KeepsOthers W wr ∧ Below b2 W wr)
            case atStart => exact ⟨nx, by omega, Nat.le_refl _, fun i hi hj => by omega, k1, k2, k3, k4, k5, k6, KeepsOthers.refl _, Below.refl _ _⟩
            case round =>
              obtain ⟨m, g0, g1, g2, g3, g4, g5, g6, g7, g8, hKO, hBW⟩ := hrel
              have g9 : wr.cell? ⟨b0 + 1, 0, none⟩ = some (.int .u32 s) := ((hB.trans hBW).cell (p := ⟨b0 + 1, 0, none⟩) (by simp; omega)).trans kS
              have g10 : wr.cell? ⟨b0 + 1 + 1, 0, none⟩ = some (.bool false) := ((hB.trans hBW).cell (p := ⟨b0 + 1 + 1, 0, none⟩) (by simp; omega)).trans kR
              have g11 : wr.frozen? ⟨b0 + 1 + 1, 0, none⟩ = false := ((hB.trans hBW).frozen (p := ⟨b0 + 1 + 1, 0, none⟩) (by simp; omega)).trans fR
              replace g2 := Lib.hid g2
              replace hKO := Lib.hid hKO
              replace hBW := Lib.hid hBW
              by_cases hm : m < 32
              · have H := rhas_any s m wr hs2
                rw [hasB_bit hm] at H
                by_cases hbit : s.testBit m = true
                · rw [hbit] at H
                  replace H := Lib.hid H
                  replace hbit := Lib.hid hbit
                  gi_wp2_with fail
                  refine ⟨trivial, (CallsIn.inRound l (callsIn_wide.2 H.out)).mono ?_⟩
                  rintro e w1 ⟨rfl, rfl⟩
                  by_cases hx : x.val = m
                  · have hx31 : (m : Int) ≤ 31 := by omega
                    have hxm : ((x.val : Int) != (m : Int)) = false := by rw [hx]; simp
                    have hx31' : ¬ 31 < (x.val : Int) := by omega
                    have hnew : Hid ((pre ++ [x]).map Fin.val = (List.range (m + 1)).filter s.testBit) := Lib.hid (by rw [List.map_append, h2.out, next_take g1 g2.out hbit.out, List.map_cons, List.map_nil, hx])
                    have hl2 : Hid (((pre ++ [x]).length : Int) = (pre.length : Int) + 1) := Lib.hid (by simp)
                    have hl0 : Hid True := Lib.hid trivial
                    gi_wp2
                    exact ⟨(hKO.out.trans (KeepsOthers.setCell _ _ _)).trans (KeepsOthers.setCell _ _ _), (hBW.out.setCell (p := ⟨b2 + 1, 0, none⟩) (by simp) _).setCell (p := ⟨b2 + 1 + 1, 0, none⟩) (by simp; omega) _,
                      ⟨m + 1, by omega, hnew.out, (World.cell?_setCell_far _ _ _ _ (by first | (simp; done) | (simp; omega))).trans (World.cell?_setCell_same' _ _ _ (by rw [g3]; rfl)), by rw [World.frozen?_setCell, World.frozen?_setCell]; exact g4,
                        by rw [hl2.out]; exact cell_set2 (by first | (simp; done) | (simp; omega)) g5, by rw [World.frozen?_setCell, World.frozen?_setCell]; exact g6,
                        (World.cell?_setCell_far _ _ _ _ (by first | (simp; done) | (simp; omega))).trans ((World.cell?_setCell_far _ _ _ _ (by first | (simp; done) | (simp; omega))).trans g7), by rw [World.frozen?_setCell, World.frozen?_setCell]; exact g8,
                        by intro h_; first | (have h_' := hl0.out; rw [List.length_append]; simp only [List.length_cons, List.length_nil]; omega) | cases h_⟩, ((hB.trans hBW.out).setCell (p := ⟨b2 + 1, 0, none⟩) (by simp) _).setCell (p := ⟨b2 + 1 + 1, 0, none⟩) (by simp; omega) _⟩
                  · have hxm : ((x.val : Int) != (m : Int)) = true := by simp; omega
                    have hpre : Hid (¬ ((pre ++ [x]).map Fin.val <+: elems s)) := Lib.hid (fun h => by
                      rw [List.map_append, h2.out] at h
                      have := next_elem g1 (by omega) g2.out (.inr hbit.out) h
                      exact hx this.2)
                    gi_wp2
                    exact ⟨hKO.out.trans (KeepsOthers.setCell _ _ _), .inl ⟨rfl, hpre.out⟩⟩
                · have hbit' : s.testBit m = false := by simpa using hbit
                  rw [hbit'] at H
                  replace H := Lib.hid H
                  replace hbit := Lib.hid hbit'
                  clear hbit'
                  gi_wp2_with fail
                  refine ⟨trivial, (CallsIn.inRound l (callsIn_wide.2 H.out)).mono ?_⟩
                  rintro e w1 ⟨rfl, rfl⟩
                  gi_wp2
                  gi_roundg (32 - (m + 1))
                  case measure => omega
                  case rel =>
                    exact ⟨m + 1, by omega, by omega, fun i hi hj => by
                        by_cases e : i = m
                        · rw [e]; exact hbit.out
                        · exact g2.out i hi (by omega),
                      World.cell?_setCell_same' _ _ _ (by rw [g3]; rfl), by rw [World.frozen?_setCell]; exact g4,
                      (World.cell?_setCell_far _ _ _ _ (by first | (simp; done) | (simp; omega))).trans g5, by rw [World.frozen?_setCell]; exact g6,
                      (World.cell?_setCell_far _ _ _ _ (by first | (simp; done) | (simp; omega))).trans g7, by rw [World.frozen?_setCell]; exact g8,
                      hKO.out.trans (KeepsOthers.setCell _ _ _), hBW.out.setCell (p := ⟨b2 + 1, 0, none⟩) (by simp) _⟩
              · obtain rfl : m = 32 := by omega
                replace g3 : wr.cell? ⟨b2 + 1, 0, none⟩ = some (.int .i64 32) := g3
                have hd32 : decide ((32 : Int) < 32) = false := rfl
                clear hm g0
                have hxm : ((x.val : Int) != (32 : Int)) = true := by have := x.isLt; simp; omega
                have hpre : Hid (¬ ((pre ++ [x]).map Fin.val <+: elems s)) := Lib.hid (fun h => by
                  rw [List.map_append, h2.out] at h
                  have := next_elem g1 (by omega) g2.out (.inl rfl) h
                  omega)
                gi_wp2
                refine ⟨trivial, ?_⟩
                gi_wp2
                exact ⟨hKO.out.trans (KeepsOthers.setCell _ _ _), .inl ⟨rfl, hpre.out⟩⟩
          · rintro D2 ys W2 hD2 hys ⟨⟨nx, h1, h2, k1, k2, k3, k4, k5, k6, k10⟩, hB⟩ hK2
            have hce : (ys.length : Int) = (cardB s : Nat) := by
              have h_ := congrArg List.length hys
              simp at h_
              rw [h_]; rfl
            rw [hce] at k3
            clear hys h1 h2 k1 k2 k10 hce
            replace kS : W2.cell? ⟨b0 + 1, 0, none⟩ = some (.int .u32 s) := (hB.cell (p := ⟨b0 + 1, 0, none⟩) (by simp; omega)).trans kS
            replace kR : W2.cell? ⟨b0 + 1 + 1, 0, none⟩ = some (.bool false) := (hB.cell (p := ⟨b0 + 1 + 1, 0, none⟩) (by simp; omega)).trans kR
            replace fR : W2.frozen? ⟨b0 + 1 + 1, 0, none⟩ = false := (hB.frozen (p := ⟨b0 + 1 + 1, 0, none⟩) (by simp; omega)).trans fR
            have hB2 : Hid (Below b0 w W2) := Lib.hid (hBW0.out.trans (hB.mono (by omega)))
            have hKW : Hid (W2.heap[D]? = some (.deferred (some []))) := Lib.hid ((hB.block D (by omega)).trans hK.out)
            have hWs2 := hB.size
            have l1 : b0 + 1 < W2.heap.size := by omega
            have l2 : b0 + 1 + 1 < W2.heap.size := by omega
            have l3 : ¬ b0 + 1 + 1 = W2.heap.size := by omega
            have l4 : ¬ W2.heap.size = b0 + 1 + 1 := by omega
            replace hK2 := Lib.hid hK2
            clear hB
            go_wp2_with fail
            refine (rcount_any s _ hs2).mono ?_
            rintro e w1 ⟨rfl, rfl⟩
            go_wp2
            rw [rounds_succ]
            go_wp2
            simp at hD2 hD
            have q2 := ((KeepsOthers.setCell W2 ⟨b0 + 1 + 1, 0, none⟩ (.bool true)).trans (KeepsOthers.alloc (W2.setCell ⟨b0 + 1 + 1, 0, none⟩ (.bool true)) (.cells #[.int .i64 2] 3))).same D2 _ hK2.out rfl
            have q1 := ((KeepsOthers.setCell W2 ⟨b0 + 1 + 1, 0, none⟩ (.bool true)).trans (KeepsOthers.alloc (W2.setCell ⟨b0 + 1 + 1, 0, none⟩ (.bool true)) (.cells #[.int .i64 2] 3))).same D _ hKW.out rfl
            have q0 : ((W2.setCell ⟨b0 + 1 + 1, 0, none⟩ (.bool true)).alloc (.cells #[.int .i64 2] 3)).cell? ⟨b0 + 1 + 1, 0, none⟩ = some (.bool true) := cell_alloc1 _ (World.cell?_setCell_same' _ _ _ (by rw [kR]; rfl))
            have qB : Below b0 w ((W2.setCell ⟨b0 + 1 + 1, 0, none⟩ (.bool true)).alloc (.cells #[.int .i64 2] 3)) := (hB2.out.setCell (p := ⟨b0 + 1 + 1, 0, none⟩) (by simp; omega) _).alloc (by simp [World.setCell]; omega) _
            generalize (W2.setCell ⟨b0 + 1 + 1, 0, none⟩ (.bool true)).alloc (.cells #[.int .i64 2] 3) = F at q2 q1 q0 qB ⊢
            have q1' : (F.putObj D2 (.deferred none)).heap[D]? = some (.deferred (some [])) := (World.putObj_heap_other (by omega)).trans q1
            have q0' := cell_kept (cell_kept q0 (grownBy_putObj' _ D2 (.deferred none)) (fun r e => by cases e; exact ⟨_, q2, rfl⟩)) (grownBy_putObj' _ D (.deferred none)) (fun r e => by cases e; exact ⟨_, q1', rfl⟩)
            have qB' := (qB.trans (belowK_b (n₀ := b0) (w := w) hw0 F D2 _ (.deferred none) (by omega) q2 rfl rfl)).trans (belowK_b (n₀ := b0) (w := w) hw0 _ D _ (.deferred none) (by omega) q1' rfl rfl)
            rw [hb0.out] at qB'
            refine ⟨by simp, .inl ⟨_, _, rfl, run_takeDeferred q2, ?_⟩⟩
            refine ⟨by simp, .inl ⟨_, _, rfl, run_takeDeferred q1', ?_⟩⟩
            refine ⟨.bool true, ?_, rfl, qB'⟩
            simp [results, Tryd.f3, go_sem, q0']
          · rintro D2 c2 pre2 W2 hD2 hpre2 (⟨rfl, hn⟩ | ⟨_, h_, _⟩) hK2
            · exact absurd hpre2 hn
            · cases h_
set_option maxRecDepth 100000 in
set_option maxHeartbeats 3200000 in
theorem sets_walk (c : Cfg) (s t q : Int) (w : World) (ok : c.Ok) (hT : Tab w) (hs : (Lit.int .u32 s).wf = true) (ht : (Lit.int .u32 t).wf = true) (hq : (Lit.int .i64 q).wf = true) :
    Calls Tryd.prog 3 #[.agg #[.int .i64 c.f, .int .i64 c.mb, .int .u64 c.dl, .int .u64 c.wd, .int .u64 c.ev, .int .u64 c.bt, .int .u64 c.ep, .int .u64 c.em, .int .u64 c.mn, .int .u64 c.ms], .int .u32 s, .int .u32 t, .int .i64 q] w fun e w' => e = .returned (.bool true) ∧ Below w.heap.size w w' := by
  by_cases hb : c.bad = -1
  · exact sets_yes c s t q w ok hb hT hs ht hq
  · exact sets_no c s t q w ok hb hT hs ht hq
theorem sets_law (a0 a1 a2 a3 a4 a5 a6 a7 a8 a9 s t q : Int) (w : World) (h0 : (Lit.int .i64 a0).wf = true) (h1 : (Lit.int .i64 a1).wf = true) (h2 : (Lit.int .u64 a2).wf = true) (h3 : (Lit.int .u64 a3).wf = true) (h4 : (Lit.int .u64 a4).wf = true) (h5 : (Lit.int .u64 a5).wf = true) (h6 : (Lit.int .u64 a6).wf = true) (h7 : (Lit.int .u64 a7).wf = true) (h8 : (Lit.int .u64 a8).wf = true) (h9 : (Lit.int .u64 a9).wf = true) (hs : (Lit.int .u32 s).wf = true) (ht : (Lit.int .u32 t).wf = true) (hq : (Lit.int .i64 q).wf = true) (hT : Tab w) :
    Calls Tryd.prog 3 #[.agg #[.int .i64 a0, .int .i64 a1, .int .u64 a2, .int .u64 a3, .int .u64 a4, .int .u64 a5, .int .u64 a6, .int .u64 a7, .int .u64 a8, .int .u64 a9], .int .u32 s, .int .u32 t, .int .i64 q] w fun e w' => e = .returned (.bool true) ∧ Below w.heap.size w w' :=
  sets_walk ⟨a0, a1, a2, a3, a4, a5, a6, a7, a8, a9⟩ s t q w ⟨(wf_i64 h0).1, (wf_i64 h0).2, (wf_i64 h1).1, (wf_i64 h1).2, (wf_u64 h2).1, (wf_u64 h3).1, (wf_u64 h4).1, (wf_u64 h5).1, (wf_u64 h6).1, (wf_u64 h7).1, (wf_u64 h8).1, (wf_u64 h9).1⟩ hT hs ht hq
end Go.Proofs.YtehmbcpgendkjaaDoor
