import Derived.Test.YtehmbcpgendkjaaDoorTalSt
namespace Go.Proofs.YtehmbcpgendkjaaDoor
open Go.RowKit Go.Maps
set_option linter.unusedSimpArgs false
set_option linter.unusedVariables false
variable {w w' : World} {c : Cfg} {B0 B gb hb tb mb ub nb rb sb : Nat} {A1 : Option Addr} {p1 : Nat} {k1 : List RK} {A2 : Option Addr} {p2 : Nat} {k2 : List RK}
theorem St.after1 (h : St w c B gb hb tb mb ub nb rb sb A1 p1 k1 A2 p2 k2) (I : Ids B0 B gb hb tb mb ub nb rb sb) (hg : w.grownBy w' (some mb)) : RTal w' rb hb B A1 p1 k1 ∧ RefAt w' hb c ∧ B ≤ w'.heap.size := by
  have b : But2 w w' mb mb := But2.of_grown hg
  have hA : ∀ g, A1 = some ⟨g, 0, none⟩ → g ≠ mb := fun g hg => Nat.ne_of_gt (Nat.lt_of_lt_of_le I.imb.2 (h.r.low' hg).1)
  exact ⟨h.r.but b I.dm.2.2.2.2.2.1.symm I.dm.2.2.2.2.2.1.symm (fun g hg => ⟨hA g hg, hA g hg⟩), h.hh.but b I.dm.2.1.symm I.dm.2.1.symm, Nat.le_trans h.bB b.size⟩
theorem St.after2 (h : St w c B gb hb tb mb ub nb rb sb A1 p1 k1 A2 p2 k2) (I : Ids B0 B gb hb tb mb ub nb rb sb) (hg : w.grownBy w' (some nb)) : RTal w' sb hb B A2 p2 k2 ∧ RefAt w' hb c ∧ B ≤ w'.heap.size := by
  have b : But2 w w' nb nb := But2.of_grown hg
  have hA : ∀ g, A2 = some ⟨g, 0, none⟩ → g ≠ nb := fun g hg => Nat.ne_of_gt (Nat.lt_of_lt_of_le I.inb.2 (h.s.low' hg).1)
  exact ⟨h.s.but b I.dn.2.2.2.2.2.symm I.dn.2.2.2.2.2.symm (fun g hg => ⟨hA g hg, hA g hg⟩), h.hh.but b I.dn.2.1.symm I.dn.2.1.symm, Nat.le_trans h.bB b.size⟩
set_option maxRecDepth 100000 in
set_option maxHeartbeats 1600000 in
theorem first_speak (h : St w c B gb hb tb mb ub nb rb sb A1 p1 k1 A2 p2 k2) (I : Ids B0 B gb hb tb mb ub nb rb sb) (hB0 : B0 ≤ B) (h1 : 1 ≤ c.f) (h2 : c.f ≤ 3) (n bn bd x : Int) (hk : (Lit.int .u64 n).wf = true) :
    Calls Tryd.prog 37 #[.pointer (some ⟨tb, 0, none⟩), .pointer (some ⟨rb, 0, none⟩), .agg #[.int .i64 0, .int .u64 n, .int .u64 bn, .int .i64 bd, .int .i64 x]] w fun e w' => e = .returned (.bool true) ∧ (∃ A' p' k', St w' c B gb hb tb mb ub nb rb sb A' p' k' A2 p2 k2) ∧ Below B0 w w' := by
  have T : ∀ w1, Below w.heap.size w w1 → Calls Tryd.prog 46 #[.pointer (some ⟨tb, 0, none⟩), .int .u64 n, .int .i64 x] w1 fun e w' => e = .returned (.tuple #[.int .i64 (ansK c k1 (n, 0, 0) x : Nat), .int .i64 (okK c k1 (n, 0, 0) x : Nat)]) ∧ MapIs w' mb (f1K (nxtK c k1 (n, 0, 0) x)) (nxtK c k1 (n, 0, 0) x).length ∧ w1.grownBy w' (some mb) := fun w1 hb1 => by
    have h' := h.below hb1
    exact tspeak_u tb gb mb c k1 n x hk w1 h'.t h'.m h'.gg h1 h'.l1 h'.tab I.dm.2.2.1 (Nat.ne_of_lt (Nat.lt_of_lt_of_le I.t0 I.imb.1))
  have R : ∀ w2, RTal w2 rb hb B A1 p1 k1 → RefAt w2 hb c → B ≤ w2.heap.size → Calls Tryd.prog 56 #[.pointer (some ⟨rb, 0, none⟩), .int .u64 n, .agg #[.int .u64 0, .int .i64 0], .int .i64 x] w2 fun e w' => e = .returned (.tuple #[.int .i64 (ansK c k1 (n, 0, 0) x : Nat), .int .i64 (okK c k1 (n, 0, 0) x : Nat)]) ∧ RPost w2 rb hb B A1 (nxtK c k1 (n, 0, 0) x) w' := fun w2 a b d =>
    rtspeak_u rb hb B p1 c A1 k1 n 0 0 x w2 a b h1 h2 h.l1 h.n1 h.f1 d
  have hn := nod_nxt (c := c) (key := (n, 0, 0)) (x := x) h.n1
  have hl := len_spk_le (c := c) (key := (n, 0, 0)) (x := x) h.l1
  have hf := fit_nxt (c := c) (key := (n, 0, 0)) (x := x) h.f1
  generalize nxtK c k1 (n, 0, 0) x = k1' at T R hn hl hf
  generalize okK c k1 (n, 0, 0) x = ok at T R
  generalize ansK c k1 (n, 0, 0) x = an at T R
  have H := Lib.hid h
  replace T := Lib.hid T
  replace R := Lib.hid R
  replace hn := Lib.hid hn
  replace hf := Lib.hid hf
  replace hl := Lib.hid hl
  clear h
  go_enter Tryd.func37, Tryd.ntmps37
  go_wp2_with fail
  refine (T.out _ (below_alloc _ _)).mono ?_
  rintro e w2 ⟨rfl, hm2, hg2⟩
  have hnm : w.heap.size ≠ mb := Nat.ne_of_gt (Nat.lt_of_lt_of_le I.imb.2 H.out.bB)
  have hbx : ∀ o v, (w.alloc (.cells #[.int .i64 0, .int .u64 n, .int .u64 bn, .int .i64 bd, .int .i64 x] 69)).cell? ⟨w.heap.size, o, none⟩ = some v → w2.cell? ⟨w.heap.size, o, none⟩ = some v := fun o v hv => (World.cell?_of_block (hg2.block w.heap.size (by simp) (fun e => hnm (by injection e)))).trans hv
  have d1 := hbx 1 (.int .u64 n) (by simp)
  have d4 := hbx 4 (.int .i64 x) (by simp)
  have hs2 : w.heap.size < w2.heap.size := Nat.lt_of_lt_of_le (by simp) hg2.size
  replace hm2 := Lib.hid hm2
  replace hg2 := Lib.hid (grown_then (grown_of_below (below_alloc w _) _) hg2)
  have AF := Lib.hid (H.out.after1 I hg2.out)
  clear hbx T
  go_wp2_with fail
  refine (R.out _ AF.out.1 AF.out.2.1 AF.out.2.2).mono ?_
  rintro e w3 ⟨rfl, hr3⟩
  replace hr3 := Lib.hid hr3
  go_wp2
  go_ret
  have F := H.out.first I hB0 hg2.out hm2.out (Below.refl _ _) hr3.out hn.out hl.out hf.out
  obtain ⟨⟨A', p', hS⟩, hb⟩ := F
  exact ⟨rfl, ⟨A', p', _, hS⟩, hb⟩
set_option maxRecDepth 100000 in
set_option maxHeartbeats 1600000 in
theorem first_drop (h : St w c B gb hb tb mb ub nb rb sb A1 p1 k1 A2 p2 k2) (I : Ids B0 B gb hb tb mb ub nb rb sb) (hB0 : B0 ≤ B) (h1 : 1 ≤ c.f) (h2 : c.f ≤ 3) (n bn bd x : Int) (hk : (Lit.int .u64 n).wf = true) :
    Calls Tryd.prog 37 #[.pointer (some ⟨tb, 0, none⟩), .pointer (some ⟨rb, 0, none⟩), .agg #[.int .i64 2, .int .u64 n, .int .u64 bn, .int .i64 bd, .int .i64 x]] w fun e w' => e = .returned (.bool true) ∧ (∃ A' p' k', St w' c B gb hb tb mb ub nb rb sb A' p' k' A2 p2 k2) ∧ Below B0 w w' := by
  have T : ∀ w1, Below w.heap.size w w1 → Calls Tryd.prog 45 #[.pointer (some ⟨tb, 0, none⟩), .int .u64 n] w1 fun e w' => (∃ v, e = .returned v) ∧ MapIs w' mb (f1K (dropK k1 (n, 0, 0))) (dropK k1 (n, 0, 0)).length ∧ w1.grownBy w' (some mb) := fun w1 hb1 => by
    have h' := h.below hb1
    exact (tdrop_at tb gb mb (f1K k1) k1.length n hk w1 h'.t h'.m).mono fun e w' ⟨a, b, d⟩ => ⟨a, map_drop h.n1 b, d⟩
  have R : ∀ w2, RTal w2 rb hb B A1 p1 k1 → B ≤ w2.heap.size → Calls Tryd.prog 57 #[.pointer (some ⟨rb, 0, none⟩), .int .u64 n, .agg #[.int .u64 0, .int .i64 0]] w2 fun e w' => (∃ v, e = .returned v) ∧ RPost w2 rb hb B A1 (dropK k1 (n, 0, 0)) w' := fun w2 a d =>
    rtdrop_u rb hb B p1 A1 k1 n 0 0 w2 a h.l1 d
  have hn : NodK (dropK k1 (n, 0, 0)) := nod_drop h.n1
  have hl : (dropK k1 (n, 0, 0)).length ≤ 64 := Nat.le_trans (len_drop_le _ _) h.l1
  have hf : FitK (dropK k1 (n, 0, 0)) := fit_drop _ h.f1
  generalize dropK k1 (n, 0, 0) = k1' at T R hn hl hf
  have H := Lib.hid h
  replace T := Lib.hid T
  replace R := Lib.hid R
  replace hn := Lib.hid hn
  replace hf := Lib.hid hf
  replace hl := Lib.hid hl
  clear h
  go_enter Tryd.func37, Tryd.ntmps37
  go_wp2_with fail
  refine (T.out _ (below_alloc _ _)).mono ?_
  rintro e w2 ⟨⟨v, rfl⟩, hm2, hg2⟩
  have hnm : w.heap.size ≠ mb := Nat.ne_of_gt (Nat.lt_of_lt_of_le I.imb.2 H.out.bB)
  have hbx : ∀ o v, (w.alloc (.cells #[.int .i64 2, .int .u64 n, .int .u64 bn, .int .i64 bd, .int .i64 x] 69)).cell? ⟨w.heap.size, o, none⟩ = some v → w2.cell? ⟨w.heap.size, o, none⟩ = some v := fun o v hv => (World.cell?_of_block (hg2.block w.heap.size (by simp) (fun e => hnm (by injection e)))).trans hv
  have d1 := hbx 1 (.int .u64 n) (by simp)
  have hs2 : w.heap.size < w2.heap.size := Nat.lt_of_lt_of_le (by simp) hg2.size
  replace hm2 := Lib.hid hm2
  replace hg2 := Lib.hid (grown_then (grown_of_below (below_alloc w _) _) hg2)
  have AF := Lib.hid (H.out.after1 I hg2.out)
  clear hbx T
  go_wp2_with fail
  refine (R.out _ AF.out.1 AF.out.2.2).mono ?_
  rintro e w3 ⟨⟨v', rfl⟩, hr3⟩
  replace hr3 := Lib.hid hr3
  go_wp2
  go_ret
  have F := H.out.first I hB0 hg2.out hm2.out (Below.refl _ _) hr3.out hn.out hl.out hf.out
  obtain ⟨⟨A', p', hS⟩, hb⟩ := F
  exact ⟨rfl, ⟨A', p', _, hS⟩, hb⟩
set_option maxRecDepth 100000 in
set_option maxHeartbeats 1600000 in
theorem first_nodes (h : St w c B gb hb tb mb ub nb rb sb A1 p1 k1 A2 p2 k2) (I : Ids B0 B gb hb tb mb ub nb rb sb) (hB0 : B0 ≤ B) (h1 : 1 ≤ c.f) (h2 : c.f ≤ 3) (n bn bd x : Int) (hk : (Lit.int .u64 n).wf = true) :
    Calls Tryd.prog 37 #[.pointer (some ⟨tb, 0, none⟩), .pointer (some ⟨rb, 0, none⟩), .agg #[.int .i64 4, .int .u64 n, .int .u64 bn, .int .i64 bd, .int .i64 x]] w fun e w' => e = .returned (.bool true) ∧ (∃ A' p' k', St w' c B gb hb tb mb ub nb rb sb A' p' k' A2 p2 k2) ∧ Below B0 w w' := by
  have T : ∀ w1, Below w.heap.size w w1 → Calls Tryd.prog 39 #[.pointer (some ⟨tb, 0, none⟩), .int .u64 n] w1 fun e w' => e = .returned (.int .u32 ((lookK k1 (n, 0, 0)).getD 0 : Nat)) ∧ Below w1.heap.size w1 w' := fun w1 hb1 => by
    have h' := h.below hb1
    exact sameB (tnodes_at tb gb mb (f1K k1) k1.length n hk w1 h'.t h'.m)
  have R : ∀ w1, Below w.heap.size w w1 → Calls Tryd.prog 40 #[.pointer (some ⟨rb, 0, none⟩), .int .u64 n, .agg #[.int .u64 0, .int .i64 0]] w1 fun e w' => e = .returned (.int .u32 ((lookK k1 (n, 0, 0)).getD 0 : Nat)) ∧ Below w1.heap.size w1 w' := fun w1 hb1 => by
    have h' := h.below hb1
    exact rtnodes_at rb hb B p1 A1 k1 n 0 0 w1 h'.r h.l1 h.n1
  generalize (lookK k1 (n, 0, 0)).getD 0 = v at T R
  have H := Lib.hid h
  have hB0' : B0 ≤ w.heap.size := Nat.le_trans hB0 h.bB
  replace T := Lib.hid T
  replace R := Lib.hid R
  clear h
  go_enter Tryd.func37, Tryd.ntmps37
  go_wp2_with fail
  refine wp_region_below (by kernel_rfl) (by kernel_rfl) ?_
  repeat first | go_big_quiet_skip | (go_big_quiet_want; go_big_quiet_op; go_big_quiet_on) | (go_big_quiet_want; rename_i K hK; apply quiet_mk; (focus (intro w1 hw1; have hc1 := (bcell hw1).1; have hf1 := (bcell hw1).2; go_simp; first | done | rfl | (first | (go_at_call 39; (refine (T.out _ (below_alloc' hw1)).mono ?_); rintro e w2 ⟨rfl, hb2⟩; exact ⟨rfl, (hw1.trans (hb2.mono hw1.size)).mono (by simp)⟩) | (go_at_call 40; (refine (R.out _ (below_alloc' hw1)).mono ?_); rintro e w2 ⟨rfl, hb2⟩; exact ⟨rfl, (hw1.trans (hb2.mono hw1.size)).mono (by simp)⟩)))); refine hK _ ?_; clear hK K; try simp only [Act.put, List.setIfInBounds_toArray, List.set_cons_zero, List.set_cons_succ])
  refine wpQuiet_nil ?_
  intro wa hb_wa
  have hc_wa := (bcell hb_wa).1
  have hf_wa := (bcell hb_wa).2
  go_wp2
  go_ret
  have hb := below_alloc' hb_wa
  exact ⟨by simp, ⟨A1, p1, k1, H.out.below hb⟩, hb.mono hB0'⟩
set_option maxRecDepth 100000 in
set_option maxHeartbeats 1600000 in
theorem first_reached (h : St w c B gb hb tb mb ub nb rb sb A1 p1 k1 A2 p2 k2) (I : Ids B0 B gb hb tb mb ub nb rb sb) (hB0 : B0 ≤ B) (h1 : 1 ≤ c.f) (h2 : c.f ≤ 3) (n bn bd x : Int) (hk : (Lit.int .u64 n).wf = true) :
    Calls Tryd.prog 37 #[.pointer (some ⟨tb, 0, none⟩), .pointer (some ⟨rb, 0, none⟩), .agg #[.int .i64 6, .int .u64 n, .int .u64 bn, .int .i64 bd, .int .i64 x]] w fun e w' => e = .returned (.bool true) ∧ (∃ A' p' k', St w' c B gb hb tb mb ub nb rb sb A' p' k' A2 p2 k2) ∧ Below B0 w w' := by
  have T : ∀ w1, Below w.heap.size w w1 → Calls Tryd.prog 47 #[.pointer (some ⟨tb, 0, none⟩), .int .u64 n] w1 fun e w' => e = .returned (.bool (majB c ((lookK k1 (n, 0, 0)).getD 0))) ∧ Below w1.heap.size w1 w' := fun w1 hb1 => by
    have h' := h.below hb1
    exact treached_at tb gb mb c (f1K k1) k1.length n hk w1 h'.t h'.m h'.gg h1 h2 h'.tab
  have R : ∀ w1, Below w.heap.size w w1 → Calls Tryd.prog 58 #[.pointer (some ⟨rb, 0, none⟩), .int .u64 n, .agg #[.int .u64 0, .int .i64 0]] w1 fun e w' => e = .returned (.bool (majB c ((lookK k1 (n, 0, 0)).getD 0))) ∧ Below w1.heap.size w1 w' := fun w1 hb1 => by
    have h' := h.below hb1
    exact rtreached_at rb hb B p1 c A1 k1 n 0 0 w1 h'.r h'.hh h1 h2 h.l1 h.n1 (h.f1 _)
  generalize majB c ((lookK k1 (n, 0, 0)).getD 0) = v at T R
  have H := Lib.hid h
  have hB0' : B0 ≤ w.heap.size := Nat.le_trans hB0 h.bB
  replace T := Lib.hid T
  replace R := Lib.hid R
  clear h
  go_enter Tryd.func37, Tryd.ntmps37
  go_wp2_with fail
  refine wp_region_below (by kernel_rfl) (by kernel_rfl) ?_
  repeat first | go_big_quiet_skip | (go_big_quiet_want; go_big_quiet_op; go_big_quiet_on) | (go_big_quiet_want; rename_i K hK; apply quiet_mk; (focus (intro w1 hw1; have hc1 := (bcell hw1).1; have hf1 := (bcell hw1).2; go_simp; first | done | rfl | (first | (go_at_call 47; (refine (T.out _ (below_alloc' hw1)).mono ?_); rintro e w2 ⟨rfl, hb2⟩; exact ⟨rfl, (hw1.trans (hb2.mono hw1.size)).mono (by simp)⟩) | (go_at_call 58; (refine (R.out _ (below_alloc' hw1)).mono ?_); rintro e w2 ⟨rfl, hb2⟩; exact ⟨rfl, (hw1.trans (hb2.mono hw1.size)).mono (by simp)⟩)))); refine hK _ ?_; clear hK K; try simp only [Act.put, List.setIfInBounds_toArray, List.set_cons_zero, List.set_cons_succ])
  refine wpQuiet_nil ?_
  intro wa hb_wa
  have hc_wa := (bcell hb_wa).1
  have hf_wa := (bcell hb_wa).2
  go_wp2
  go_ret
  have hb := below_alloc' hb_wa
  exact ⟨by simp, ⟨A1, p1, k1, H.out.below hb⟩, hb.mono hB0'⟩
set_option maxRecDepth 100000 in
set_option maxHeartbeats 1600000 in
theorem first_len (h : St w c B gb hb tb mb ub nb rb sb A1 p1 k1 A2 p2 k2) (I : Ids B0 B gb hb tb mb ub nb rb sb) (hB0 : B0 ≤ B) (h1 : 1 ≤ c.f) (h2 : c.f ≤ 3) (n bn bd x : Int) (hk : (Lit.int .u64 n).wf = true) :
    Calls Tryd.prog 37 #[.pointer (some ⟨tb, 0, none⟩), .pointer (some ⟨rb, 0, none⟩), .agg #[.int .i64 8, .int .u64 n, .int .u64 bn, .int .i64 bd, .int .i64 x]] w fun e w' => e = .returned (.bool true) ∧ (∃ A' p' k', St w' c B gb hb tb mb ub nb rb sb A' p' k' A2 p2 k2) ∧ Below B0 w w' := by
  have T : ∀ w1, Below w.heap.size w w1 → Calls Tryd.prog 42 #[.pointer (some ⟨tb, 0, none⟩)] w1 fun e w' => e = .returned (.int .i64 (k1.length : Nat)) ∧ Below w1.heap.size w1 w' := fun w1 hb1 => by
    have h' := h.below hb1
    exact sameB (tlen_at tb gb mb (f1K k1) k1.length w1 h'.t h'.m)
  have R : ∀ w1, Below w.heap.size w w1 → Calls Tryd.prog 43 #[.pointer (some ⟨rb, 0, none⟩)] w1 fun e w' => e = .returned (.int .i64 (k1.length : Nat)) ∧ Below w1.heap.size w1 w' := fun w1 hb1 => by
    have h' := h.below hb1
    exact sameB (rtlen_at rb hb B p1 A1 k1 w1 h'.r)
  have H := Lib.hid h
  have hB0' : B0 ≤ w.heap.size := Nat.le_trans hB0 h.bB
  replace T := Lib.hid T
  replace R := Lib.hid R
  clear h
  go_enter Tryd.func37, Tryd.ntmps37
  go_wp2_with fail
  refine (T.out _ (below_alloc _ _)).mono ?_
  rintro e wa ⟨rfl, hb_wa⟩
  have hc_wa := (bcell hb_wa).1
  have hf_wa := (bcell hb_wa).2
  have hba := below_alloc' hb_wa
  go_wp2_with fail
  refine (R.out _ hba).mono ?_
  rintro e wb ⟨rfl, hb_wb⟩
  have hc_wb := (bcell hb_wb).1
  have hf_wb := (bcell hb_wb).2
  go_wp2
  go_ret
  have hb := hba.trans (hb_wb.mono hba.size)
  exact ⟨by simp, ⟨A1, p1, k1, H.out.below hb⟩, hb.mono hB0'⟩
set_option maxRecDepth 100000 in
set_option maxHeartbeats 1600000 in
theorem first_other (h : St w c B gb hb tb mb ub nb rb sb A1 p1 k1 A2 p2 k2) (I : Ids B0 B gb hb tb mb ub nb rb sb) (hB0 : B0 ≤ B) (h1 : 1 ≤ c.f) (h2 : c.f ≤ 3) (n bn bd x : Int) (hk : (Lit.int .u64 n).wf = true) (kd : Int) (e0 : kd ≠ 0) (e2 : kd ≠ 2) (e4 : kd ≠ 4) (e6 : kd ≠ 6) (e8 : kd ≠ 8) :
    Calls Tryd.prog 37 #[.pointer (some ⟨tb, 0, none⟩), .pointer (some ⟨rb, 0, none⟩), .agg #[.int .i64 kd, .int .u64 n, .int .u64 bn, .int .i64 bd, .int .i64 x]] w fun e w' => e = .returned (.bool true) ∧ (∃ A' p' k', St w' c B gb hb tb mb ub nb rb sb A' p' k' A2 p2 k2) ∧ Below B0 w w' := by
  have q0 : (kd == 0) = false := beq_eq_false_iff_ne.mpr e0
  have q2 : (kd == 2) = false := beq_eq_false_iff_ne.mpr e2
  have q4 : (kd == 4) = false := beq_eq_false_iff_ne.mpr e4
  have q6 : (kd == 6) = false := beq_eq_false_iff_ne.mpr e6
  have q8 : (kd == 8) = false := beq_eq_false_iff_ne.mpr e8
  have H := Lib.hid h
  have hB0' : B0 ≤ w.heap.size := Nat.le_trans hB0 h.bB
  clear h
  go_enter Tryd.func37, Tryd.ntmps37
  go_wp2
  go_ret
  exact ⟨rfl, ⟨A1, p1, k1, H.out.below (below_alloc w _)⟩, (below_alloc w _).mono hB0'⟩
end Go.Proofs.YtehmbcpgendkjaaDoor
