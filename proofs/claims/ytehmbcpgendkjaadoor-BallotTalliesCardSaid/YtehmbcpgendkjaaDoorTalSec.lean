import Derived.Test.YtehmbcpgendkjaaDoorTalStep
namespace Go.Proofs.YtehmbcpgendkjaaDoor
open Go.RowKit Go.Maps
set_option linter.unusedSimpArgs false
set_option linter.unusedVariables false
variable {w w' : World} {c : Cfg} {B0 B gb hb tb mb ub nb rb sb : Nat} {A1 : Option Addr} {p1 : Nat} {k1 : List RK} {A2 : Option Addr} {p2 : Nat} {k2 : List RK}
set_option maxRecDepth 100000 in
set_option maxHeartbeats 1600000 in
theorem second_speak (h : St w c B gb hb tb mb ub nb rb sb A1 p1 k1 A2 p2 k2) (I : Ids B0 B gb hb tb mb ub nb rb sb) (hB0 : B0 ≤ B) (h1 : 1 ≤ c.f) (h2 : c.f ≤ 3) (n bn bd x : Int) (hkb : (Lit.int .u64 bn).wf = true) (hkd : (Lit.int .i64 bd).wf = true) :
    Calls Tryd.prog 38 #[.pointer (some ⟨ub, 0, none⟩), .pointer (some ⟨sb, 0, none⟩), .agg #[.int .i64 1, .int .u64 n, .int .u64 bn, .int .i64 bd, .int .i64 x]] w fun e w' => e = .returned (.bool true) ∧ (∃ A' p' k', St w' c B gb hb tb mb ub nb rb sb A1 p1 k1 A' p' k') ∧ Below B0 w w' := by
  have hk : KWf (bn, bd) := ⟨hkb, hkd⟩
  have T : ∀ w1, Below w.heap.size w w1 → Calls Tryd.prog 59 #[.pointer (some ⟨ub, 0, none⟩), .agg #[.int .u64 bn, .int .i64 bd], .int .i64 x] w1 fun e w' => e = .returned (.tuple #[.int .i64 (ansK c k2 (0, bn, bd) x : Nat), .int .i64 (okK c k2 (0, bn, bd) x : Nat)]) ∧ MapB w' nb (f2K (nxtK c k2 (0, bn, bd) x)) (nxtK c k2 (0, bn, bd) x).length ∧ w1.grownBy w' (some nb) := fun w1 hb1 => by
    have h' := h.below hb1
    exact bspeak_u ub gb nb c k2 (bn, bd) x hk w1 h'.u h'.n h'.gg h1 h'.l2 h'.tab I.dn.2.2.2.1 (Nat.ne_of_lt (Nat.lt_of_lt_of_le I.t0 I.inb.1))
  have R : ∀ w2, RTal w2 sb hb B A2 p2 k2 → RefAt w2 hb c → B ≤ w2.heap.size → Calls Tryd.prog 56 #[.pointer (some ⟨sb, 0, none⟩), .int .u64 0, .agg #[.int .u64 bn, .int .i64 bd], .int .i64 x] w2 fun e w' => e = .returned (.tuple #[.int .i64 (ansK c k2 (0, bn, bd) x : Nat), .int .i64 (okK c k2 (0, bn, bd) x : Nat)]) ∧ RPost w2 sb hb B A2 (nxtK c k2 (0, bn, bd) x) w' := fun w2 a b d =>
    rtspeak_u sb hb B p2 c A2 k2 0 bn bd x w2 a b h1 h2 h.l2 h.n2 h.f2 d
  have hn := nod_nxt (c := c) (key := (0, bn, bd)) (x := x) h.n2
  have hl := len_spk_le (c := c) (key := (0, bn, bd)) (x := x) h.l2
  have hf := fit_nxt (c := c) (key := (0, bn, bd)) (x := x) h.f2
  generalize nxtK c k2 (0, bn, bd) x = k2' at T R hn hl hf
  generalize okK c k2 (0, bn, bd) x = ok at T R
  generalize ansK c k2 (0, bn, bd) x = an at T R
  have H := Lib.hid h
  replace T := Lib.hid T
  replace R := Lib.hid R
  replace hn := Lib.hid hn
  replace hf := Lib.hid hf
  replace hl := Lib.hid hl
  clear h
  go_enter Tryd.func38, Tryd.ntmps38
  go_wp2_with fail
  refine (T.out _ (below_alloc _ _)).mono ?_
  rintro e w2 ⟨rfl, hm2, hg2⟩
  have hnm : w.heap.size ≠ nb := Nat.ne_of_gt (Nat.lt_of_lt_of_le I.inb.2 H.out.bB)
  have hbx : ∀ o v, (w.alloc (.cells #[.int .i64 1, .int .u64 n, .int .u64 bn, .int .i64 bd, .int .i64 x] 69)).cell? ⟨w.heap.size, o, none⟩ = some v → w2.cell? ⟨w.heap.size, o, none⟩ = some v := fun o v hv => (World.cell?_of_block (hg2.block w.heap.size (by simp) (fun e => hnm (by injection e)))).trans hv
  have d2 := hbx 2 (.int .u64 bn) (by simp)
  have d3 := hbx 3 (.int .i64 bd) (by simp)
  have d4 := hbx 4 (.int .i64 x) (by simp)
  have hs2 : w.heap.size < w2.heap.size := Nat.lt_of_lt_of_le (by simp) hg2.size
  replace hm2 := Lib.hid hm2
  replace hg2 := Lib.hid (grown_then (grown_of_below (below_alloc w _) _) hg2)
  have AF := Lib.hid (H.out.after2 I hg2.out)
  clear hbx T
  go_wp2_with fail
  refine (R.out _ AF.out.1 AF.out.2.1 AF.out.2.2).mono ?_
  rintro e w3 ⟨rfl, hr3⟩
  replace hr3 := Lib.hid hr3
  go_wp2
  go_ret
  have F := H.out.second I hB0 hg2.out hm2.out (Below.refl _ _) hr3.out hn.out hl.out hf.out
  obtain ⟨⟨A', p', hS⟩, hb⟩ := F
  exact ⟨rfl, ⟨A', p', _, hS⟩, hb⟩
set_option maxRecDepth 100000 in
set_option maxHeartbeats 1600000 in
theorem second_drop (h : St w c B gb hb tb mb ub nb rb sb A1 p1 k1 A2 p2 k2) (I : Ids B0 B gb hb tb mb ub nb rb sb) (hB0 : B0 ≤ B) (h1 : 1 ≤ c.f) (h2 : c.f ≤ 3) (n bn bd x : Int) (hkb : (Lit.int .u64 bn).wf = true) (hkd : (Lit.int .i64 bd).wf = true) :
    Calls Tryd.prog 38 #[.pointer (some ⟨ub, 0, none⟩), .pointer (some ⟨sb, 0, none⟩), .agg #[.int .i64 3, .int .u64 n, .int .u64 bn, .int .i64 bd, .int .i64 x]] w fun e w' => e = .returned (.bool true) ∧ (∃ A' p' k', St w' c B gb hb tb mb ub nb rb sb A1 p1 k1 A' p' k') ∧ Below B0 w w' := by
  have hk : KWf (bn, bd) := ⟨hkb, hkd⟩
  have T : ∀ w1, Below w.heap.size w w1 → Calls Tryd.prog 60 #[.pointer (some ⟨ub, 0, none⟩), .agg #[.int .u64 bn, .int .i64 bd]] w1 fun e w' => (∃ v, e = .returned v) ∧ MapB w' nb (f2K (dropK k2 (0, bn, bd))) (dropK k2 (0, bn, bd)).length ∧ w1.grownBy w' (some nb) := fun w1 hb1 => by
    have h' := h.below hb1
    exact (bdrop_at ub gb nb (f2K k2) k2.length (bn, bd) hk w1 h'.u h'.n).mono fun e w' ⟨a, b, d⟩ => ⟨a, mapB_drop h.n2 b, d⟩
  have R : ∀ w2, RTal w2 sb hb B A2 p2 k2 → B ≤ w2.heap.size → Calls Tryd.prog 57 #[.pointer (some ⟨sb, 0, none⟩), .int .u64 0, .agg #[.int .u64 bn, .int .i64 bd]] w2 fun e w' => (∃ v, e = .returned v) ∧ RPost w2 sb hb B A2 (dropK k2 (0, bn, bd)) w' := fun w2 a d =>
    rtdrop_u sb hb B p2 A2 k2 0 bn bd w2 a h.l2 d
  have hn : NodK (dropK k2 (0, bn, bd)) := nod_drop h.n2
  have hl : (dropK k2 (0, bn, bd)).length ≤ 64 := Nat.le_trans (len_drop_le _ _) h.l2
  have hf : FitK (dropK k2 (0, bn, bd)) := fit_drop _ h.f2
  generalize dropK k2 (0, bn, bd) = k2' at T R hn hl hf
  have H := Lib.hid h
  replace T := Lib.hid T
  replace R := Lib.hid R
  replace hn := Lib.hid hn
  replace hf := Lib.hid hf
  replace hl := Lib.hid hl
  clear h
  go_enter Tryd.func38, Tryd.ntmps38
  go_wp2_with fail
  refine (T.out _ (below_alloc _ _)).mono ?_
  rintro e w2 ⟨⟨v, rfl⟩, hm2, hg2⟩
  have hnm : w.heap.size ≠ nb := Nat.ne_of_gt (Nat.lt_of_lt_of_le I.inb.2 H.out.bB)
  have hbx : ∀ o v, (w.alloc (.cells #[.int .i64 3, .int .u64 n, .int .u64 bn, .int .i64 bd, .int .i64 x] 69)).cell? ⟨w.heap.size, o, none⟩ = some v → w2.cell? ⟨w.heap.size, o, none⟩ = some v := fun o v hv => (World.cell?_of_block (hg2.block w.heap.size (by simp) (fun e => hnm (by injection e)))).trans hv
  have d2 := hbx 2 (.int .u64 bn) (by simp)
  have d3 := hbx 3 (.int .i64 bd) (by simp)
  have hs2 : w.heap.size < w2.heap.size := Nat.lt_of_lt_of_le (by simp) hg2.size
  replace hm2 := Lib.hid hm2
  replace hg2 := Lib.hid (grown_then (grown_of_below (below_alloc w _) _) hg2)
  have AF := Lib.hid (H.out.after2 I hg2.out)
  clear hbx T
  go_wp2_with fail
  refine (R.out _ AF.out.1 AF.out.2.2).mono ?_
  rintro e w3 ⟨⟨v', rfl⟩, hr3⟩
  replace hr3 := Lib.hid hr3
  go_wp2
  go_ret
  have F := H.out.second I hB0 hg2.out hm2.out (Below.refl _ _) hr3.out hn.out hl.out hf.out
  obtain ⟨⟨A', p', hS⟩, hb⟩ := F
  exact ⟨rfl, ⟨A', p', _, hS⟩, hb⟩
set_option maxRecDepth 100000 in
set_option maxHeartbeats 1600000 in
theorem second_nodes (h : St w c B gb hb tb mb ub nb rb sb A1 p1 k1 A2 p2 k2) (I : Ids B0 B gb hb tb mb ub nb rb sb) (hB0 : B0 ≤ B) (h1 : 1 ≤ c.f) (h2 : c.f ≤ 3) (n bn bd x : Int) (hkb : (Lit.int .u64 bn).wf = true) (hkd : (Lit.int .i64 bd).wf = true) :
    Calls Tryd.prog 38 #[.pointer (some ⟨ub, 0, none⟩), .pointer (some ⟨sb, 0, none⟩), .agg #[.int .i64 5, .int .u64 n, .int .u64 bn, .int .i64 bd, .int .i64 x]] w fun e w' => e = .returned (.bool true) ∧ (∃ A' p' k', St w' c B gb hb tb mb ub nb rb sb A1 p1 k1 A' p' k') ∧ Below B0 w w' := by
  have hk : KWf (bn, bd) := ⟨hkb, hkd⟩
  have T : ∀ w1, Below w.heap.size w w1 → Calls Tryd.prog 41 #[.pointer (some ⟨ub, 0, none⟩), .agg #[.int .u64 bn, .int .i64 bd]] w1 fun e w' => e = .returned (.int .u32 ((lookK k2 (0, bn, bd)).getD 0 : Nat)) ∧ Below w1.heap.size w1 w' := fun w1 hb1 => by
    have h' := h.below hb1
    exact bnodes_at ub gb nb (f2K k2) k2.length (bn, bd) hk w1 h'.u h'.n
  have R : ∀ w1, Below w.heap.size w w1 → Calls Tryd.prog 40 #[.pointer (some ⟨sb, 0, none⟩), .int .u64 0, .agg #[.int .u64 bn, .int .i64 bd]] w1 fun e w' => e = .returned (.int .u32 ((lookK k2 (0, bn, bd)).getD 0 : Nat)) ∧ Below w1.heap.size w1 w' := fun w1 hb1 => by
    have h' := h.below hb1
    exact rtnodes_at sb hb B p2 A2 k2 0 bn bd w1 h'.s h.l2 h.n2
  generalize (lookK k2 (0, bn, bd)).getD 0 = v at T R
  have H := Lib.hid h
  have hB0' : B0 ≤ w.heap.size := Nat.le_trans hB0 h.bB
  replace T := Lib.hid T
  replace R := Lib.hid R
  clear h
  go_enter Tryd.func38, Tryd.ntmps38
  go_wp2_with fail
  refine wp_region_below (by kernel_rfl) (by kernel_rfl) ?_
  repeat first | go_big_quiet_skip | (go_big_quiet_want; go_big_quiet_op; go_big_quiet_on) | (go_big_quiet_want; rename_i K hK; apply quiet_mk; (focus (intro w1 hw1; have hc1 := (bcell hw1).1; have hf1 := (bcell hw1).2; go_simp; first | done | rfl | (first | (go_at_call 41; (refine (T.out _ (below_alloc' hw1)).mono ?_); rintro e w2 ⟨rfl, hb2⟩; exact ⟨rfl, (hw1.trans (hb2.mono hw1.size)).mono (by simp)⟩) | (go_at_call 40; (refine (R.out _ (below_alloc' hw1)).mono ?_); rintro e w2 ⟨rfl, hb2⟩; exact ⟨rfl, (hw1.trans (hb2.mono hw1.size)).mono (by simp)⟩)))); refine hK _ ?_; clear hK K; try simp only [Act.put, List.setIfInBounds_toArray, List.set_cons_zero, List.set_cons_succ])
  refine wpQuiet_nil ?_
  intro wa hb_wa
  have hc_wa := (bcell hb_wa).1
  have hf_wa := (bcell hb_wa).2
  go_wp2
  go_ret
  have hb := below_alloc' hb_wa
  exact ⟨by simp, ⟨A2, p2, k2, H.out.below hb⟩, hb.mono hB0'⟩
set_option maxRecDepth 100000 in
set_option maxHeartbeats 1600000 in
theorem second_reached (h : St w c B gb hb tb mb ub nb rb sb A1 p1 k1 A2 p2 k2) (I : Ids B0 B gb hb tb mb ub nb rb sb) (hB0 : B0 ≤ B) (h1 : 1 ≤ c.f) (h2 : c.f ≤ 3) (n bn bd x : Int) (hkb : (Lit.int .u64 bn).wf = true) (hkd : (Lit.int .i64 bd).wf = true) :
    Calls Tryd.prog 38 #[.pointer (some ⟨ub, 0, none⟩), .pointer (some ⟨sb, 0, none⟩), .agg #[.int .i64 7, .int .u64 n, .int .u64 bn, .int .i64 bd, .int .i64 x]] w fun e w' => e = .returned (.bool true) ∧ (∃ A' p' k', St w' c B gb hb tb mb ub nb rb sb A1 p1 k1 A' p' k') ∧ Below B0 w w' := by
  have hk : KWf (bn, bd) := ⟨hkb, hkd⟩
  have T : ∀ w1, Below w.heap.size w w1 → Calls Tryd.prog 61 #[.pointer (some ⟨ub, 0, none⟩), .agg #[.int .u64 bn, .int .i64 bd]] w1 fun e w' => e = .returned (.bool (majB c ((lookK k2 (0, bn, bd)).getD 0))) ∧ Below w1.heap.size w1 w' := fun w1 hb1 => by
    have h' := h.below hb1
    exact breached_at ub gb nb c (f2K k2) k2.length (bn, bd) hk w1 h'.u h'.n h'.gg h1 h2 h'.tab
  have R : ∀ w1, Below w.heap.size w w1 → Calls Tryd.prog 58 #[.pointer (some ⟨sb, 0, none⟩), .int .u64 0, .agg #[.int .u64 bn, .int .i64 bd]] w1 fun e w' => e = .returned (.bool (majB c ((lookK k2 (0, bn, bd)).getD 0))) ∧ Below w1.heap.size w1 w' := fun w1 hb1 => by
    have h' := h.below hb1
    exact rtreached_at sb hb B p2 c A2 k2 0 bn bd w1 h'.s h'.hh h1 h2 h.l2 h.n2 (h.f2 _)
  generalize majB c ((lookK k2 (0, bn, bd)).getD 0) = v at T R
  have H := Lib.hid h
  have hB0' : B0 ≤ w.heap.size := Nat.le_trans hB0 h.bB
  replace T := Lib.hid T
  replace R := Lib.hid R
  clear h
  go_enter Tryd.func38, Tryd.ntmps38
  go_wp2_with fail
  refine wp_region_below (by kernel_rfl) (by kernel_rfl) ?_
  repeat first | go_big_quiet_skip | (go_big_quiet_want; go_big_quiet_op; go_big_quiet_on) | (go_big_quiet_want; rename_i K hK; apply quiet_mk; (focus (intro w1 hw1; have hc1 := (bcell hw1).1; have hf1 := (bcell hw1).2; go_simp; first | done | rfl | (first | (go_at_call 61; (refine (T.out _ (below_alloc' hw1)).mono ?_); rintro e w2 ⟨rfl, hb2⟩; exact ⟨rfl, (hw1.trans (hb2.mono hw1.size)).mono (by simp)⟩) | (go_at_call 58; (refine (R.out _ (below_alloc' hw1)).mono ?_); rintro e w2 ⟨rfl, hb2⟩; exact ⟨rfl, (hw1.trans (hb2.mono hw1.size)).mono (by simp)⟩)))); refine hK _ ?_; clear hK K; try simp only [Act.put, List.setIfInBounds_toArray, List.set_cons_zero, List.set_cons_succ])
  refine wpQuiet_nil ?_
  intro wa hb_wa
  have hc_wa := (bcell hb_wa).1
  have hf_wa := (bcell hb_wa).2
  go_wp2
  go_ret
  have hb := below_alloc' hb_wa
  exact ⟨by simp, ⟨A2, p2, k2, H.out.below hb⟩, hb.mono hB0'⟩
set_option maxRecDepth 100000 in
set_option maxHeartbeats 1600000 in
theorem second_len (h : St w c B gb hb tb mb ub nb rb sb A1 p1 k1 A2 p2 k2) (I : Ids B0 B gb hb tb mb ub nb rb sb) (hB0 : B0 ≤ B) (h1 : 1 ≤ c.f) (h2 : c.f ≤ 3) (n bn bd x : Int) (hkb : (Lit.int .u64 bn).wf = true) (hkd : (Lit.int .i64 bd).wf = true) :
    Calls Tryd.prog 38 #[.pointer (some ⟨ub, 0, none⟩), .pointer (some ⟨sb, 0, none⟩), .agg #[.int .i64 9, .int .u64 n, .int .u64 bn, .int .i64 bd, .int .i64 x]] w fun e w' => e = .returned (.bool true) ∧ (∃ A' p' k', St w' c B gb hb tb mb ub nb rb sb A1 p1 k1 A' p' k') ∧ Below B0 w w' := by
  have hk : KWf (bn, bd) := ⟨hkb, hkd⟩
  have T : ∀ w1, Below w.heap.size w w1 → Calls Tryd.prog 44 #[.pointer (some ⟨ub, 0, none⟩)] w1 fun e w' => e = .returned (.int .i64 (k2.length : Nat)) ∧ Below w1.heap.size w1 w' := fun w1 hb1 => by
    have h' := h.below hb1
    exact sameB (blen_at ub gb nb (f2K k2) k2.length w1 h'.u h'.n)
  have R : ∀ w1, Below w.heap.size w w1 → Calls Tryd.prog 43 #[.pointer (some ⟨sb, 0, none⟩)] w1 fun e w' => e = .returned (.int .i64 (k2.length : Nat)) ∧ Below w1.heap.size w1 w' := fun w1 hb1 => by
    have h' := h.below hb1
    exact sameB (rtlen_at sb hb B p2 A2 k2 w1 h'.s)
  have H := Lib.hid h
  have hB0' : B0 ≤ w.heap.size := Nat.le_trans hB0 h.bB
  replace T := Lib.hid T
  replace R := Lib.hid R
  clear h
  go_enter Tryd.func38, Tryd.ntmps38
  go_wp2_with fail
  refine (T.out _ (below_alloc _ _)).mono ?_
  rintro e wa ⟨rfl, hb_wa⟩
  have hc_wa := (bcell hb_wa).1
  have hf_wa := (bcell hb_wa).2
  have hba := below_alloc' hb_wa
  go_wp2_with fail
  refine (R.out _ hba).mono ?_
  rintro e wb ⟨rfl, hb_wb⟩
  have hc_wb := (bcell hb_wb).1
  have hf_wb := (bcell hb_wb).2
  go_wp2
  go_ret
  have hb := hba.trans (hb_wb.mono hba.size)
  exact ⟨by simp, ⟨A2, p2, k2, H.out.below hb⟩, hb.mono hB0'⟩
set_option maxRecDepth 100000 in
set_option maxHeartbeats 1600000 in
theorem second_other (h : St w c B gb hb tb mb ub nb rb sb A1 p1 k1 A2 p2 k2) (I : Ids B0 B gb hb tb mb ub nb rb sb) (hB0 : B0 ≤ B) (h1 : 1 ≤ c.f) (h2 : c.f ≤ 3) (n bn bd x : Int) (hkb : (Lit.int .u64 bn).wf = true) (hkd : (Lit.int .i64 bd).wf = true) (kd : Int) (e1 : kd ≠ 1) (e3 : kd ≠ 3) (e5 : kd ≠ 5) (e7 : kd ≠ 7) (e9 : kd ≠ 9) :
    Calls Tryd.prog 38 #[.pointer (some ⟨ub, 0, none⟩), .pointer (some ⟨sb, 0, none⟩), .agg #[.int .i64 kd, .int .u64 n, .int .u64 bn, .int .i64 bd, .int .i64 x]] w fun e w' => e = .returned (.bool true) ∧ (∃ A' p' k', St w' c B gb hb tb mb ub nb rb sb A1 p1 k1 A' p' k') ∧ Below B0 w w' := by
  have q1 : (kd == 1) = false := beq_eq_false_iff_ne.mpr e1
  have q3 : (kd == 3) = false := beq_eq_false_iff_ne.mpr e3
  have q5 : (kd == 5) = false := beq_eq_false_iff_ne.mpr e5
  have q7 : (kd == 7) = false := beq_eq_false_iff_ne.mpr e7
  have q9 : (kd == 9) = false := beq_eq_false_iff_ne.mpr e9
  have H := Lib.hid h
  have hB0' : B0 ≤ w.heap.size := Nat.le_trans hB0 h.bB
  clear h
  go_enter Tryd.func38, Tryd.ntmps38
  go_wp2
  go_ret
  exact ⟨rfl, ⟨A2, p2, k2, H.out.below (below_alloc w _)⟩, (below_alloc w _).mono hB0'⟩
end Go.Proofs.YtehmbcpgendkjaaDoor
