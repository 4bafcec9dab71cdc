import Derived.Test.YtehmbcpgendkjaaDoorWord
import Derived.Test.YtehmbcpgendkjaaDoorTalB
namespace Go.Proofs.YtehmbcpgendkjaaDoor
open Go.RowKit Go.Maps
set_option linter.unusedSimpArgs false
set_option linter.unusedVariables false
theorem bmade_at (tb gb mb : Nat) (w : World) (h : TalAt w tb gb mb) : Calls Tryd.prog 64 #[.pointer (some ⟨tb, 0, none⟩)] w fun e w' => e = .returned (.bool true) ∧ w = w' := by
  have h0 := h.g
  clear h
  go_enter Tryd.func64, Tryd.ntmps64
  go_wp2
  go_ret
  exact ⟨rfl, rfl⟩
theorem bnew_at (gb : Nat) (c : Cfg) (w : World) (hg : GrpAt w gb c (2 * c.f + 1)) (h1 : 1 ≤ c.f) : Calls Tryd.prog 35 #[.pointer (some ⟨gb, 0, none⟩)] w fun e w' =>
    ∃ tb mb, e = .returned (.pointer (some ⟨tb, 0, none⟩)) ∧ TalAt w' tb gb mb ∧ MapB w' mb (fun _ => none) 0 ∧ w.heap.size ≤ mb ∧ w.heap.size ≤ tb ∧ mb ≠ tb ∧ Below w.heap.size w w' := by
  have M := made_at gb (2 * c.f + 1) w hg.nodes
  rw [show decide (0 < 2 * c.f + 1) = true from decide_eq_true (by omega)] at M
  replace M := Lib.hid M
  clear hg
  have hmm := @run_makeMap Tryd.prog
  go_enter Tryd.func35, Tryd.ntmps35
  go_wp2_with (go_at_call 54; refine M.out.mono ?_; rintro e w1 ⟨rfl, rfl⟩)
  go_ret
  exact ⟨_, _, rfl, ⟨by simp, by simp, by simp⟩, (MapB.made w).kept (World.grownBy_alloc _ _ none) (by simp), by simp, by simp, by simp, (by repeat (first | with_reducible refine Below.drew ?_ | with_reducible refine below_drewN ?_ | with_reducible refine Below.alloc_ ?_ _ | with_reducible refine Below.setCell ?_ (by first | (simp; done) | (simp; omega)) _ | with_reducible exact Below.refl _ _ ))⟩
theorem bnew_not (p : Option Addr) (w : World) (h : NotMade w p) : Calls Tryd.prog 35 #[.pointer p] w fun e w' => e = .returned (.pointer none) ∧ w = w' := by
  have M := Lib.hid (made_not p w h)
  clear h
  go_enter Tryd.func35, Tryd.ntmps35
  go_wp2_with (go_at_call 54; refine M.out.mono ?_; rintro e w1 ⟨rfl, rfl⟩)
  go_ret
  exact ⟨rfl, rfl⟩
theorem blen_at (tb gb mb : Nat) (f : Int × Int → Option Nat) (n : Nat) (w : World) (h : TalAt w tb gb mb) (hm : MapB w mb f n) :
    Calls Tryd.prog 44 #[.pointer (some ⟨tb, 0, none⟩)] w fun e w' => e = .returned (.int .i64 (n : Nat)) ∧ w = w' := by
  have M := Lib.hid (bmade_at tb gb mb w h)
  have c1 := h.m
  have L := fun ty => hm.len ty
  clear h hm
  go_enter Tryd.func44, Tryd.ntmps44
  go_wp2_with (go_at_call 64; refine M.out.mono ?_; rintro e w1 ⟨rfl, rfl⟩)
  go_ret
  exact ⟨rfl, rfl⟩
theorem bmade_any {tb gb mb : Nat} {w : World} (h : TalAt w tb gb mb) : ∀ w1, Below w.heap.size w w1 → Calls Tryd.prog 64 #[.pointer (some ⟨tb, 0, none⟩)] w1 fun e w' => e = .returned (.bool true) ∧ w1 = w' :=
  fun w1 hb => bmade_at tb gb mb w1 (h.below h.lt hb)
theorem below_alloc (w : World) (o : Obj) : Below w.heap.size w (w.alloc o) := (Below.refl _ _).alloc (Nat.le_refl _) o
theorem below_alloc' {w w' : World} {o : Obj} (h : Below (w.alloc o).heap.size (w.alloc o) w') : Below w.heap.size w w' := (below_alloc w o).trans (h.mono (by simp))
theorem bnodes_at (tb gb mb : Nat) (f : Int × Int → Option Nat) (n : Nat) (k : Int × Int) (hk : KWf k) (w : World) (h : TalAt w tb gb mb) (hm : MapB w mb f n) :
    Calls Tryd.prog 41 #[.pointer (some ⟨tb, 0, none⟩), .agg #[.int .u64 k.1, .int .i64 k.2]] w fun e w' => e = .returned (.int .u32 ((f k).getD 0 : Nat)) ∧ Below w.heap.size w w' := by
  have M := Lib.hid (bmade_any h)
  have c1 := h.m
  have lt := h.lt
  have L : ∀ w1, Below w.heap.size w w1 → (Instr.lookup 103 (.map (some mb)) (.agg #[.int .u64 k.1, .int .i64 k.2]) false).run Tryd.prog w1 = .ok (.int .u32 ((f k).getD 0 : Nat)) w1 := fun w1 hb => (hm.below hm.lt hb).look k hk
  replace L := Lib.hid L
  clear h hm
  go_enter Tryd.func41, Tryd.ntmps41
  go_wp2_with fail
  refine (M.out _ ?_).mono ?_
  · exact below_alloc _ _
  rintro e w1 ⟨rfl, rfl⟩
  go_wp2_with fail
  refine wp_region_below (by kernel_rfl) (by kernel_rfl) ?_
  repeat first | go_big_quiet_skip | (go_big_quiet_want; go_big_quiet_op; go_big_quiet_on) | (go_big_quiet_want; rename_i K hK; apply quiet_mk; (focus (intro w1 hw1; have hc1 := (bcell hw1).1; have hf1 := (bcell hw1).2; have L1 := L.out _ (below_alloc' hw1); go_simp; first | done | rfl | (fail))); refine hK _ ?_; clear hK K; try simp only [Act.put, List.setIfInBounds_toArray, List.set_cons_zero, List.set_cons_succ])
  refine wpQuiet_nil ?_
  intro wa hb_wa
  have hc_wa := (bcell hb_wa).1
  have hf_wa := (bcell hb_wa).2
  go_wp2
  go_ret
  exact ⟨rfl, (by repeat (first | exact Below.refl _ _ | exact hb_wa | refine Below.on ?_ hb_wa | refine Below.alloc_ ?_ _ | refine Below.drew ?_ | refine below_drewN ?_ | refine Below.setCell ?_ (by first | (simp; done) | (simp; omega)) _))⟩
set_option maxRecDepth 100000 in
theorem breached_at (tb gb mb : Nat) (c : Cfg) (f : Int × Int → Option Nat) (n : Nat) (k : Int × Int) (hk : KWf k) (w : World) (h : TalAt w tb gb mb) (hm : MapB w mb f n) (hg : GrpAt w gb c (2 * c.f + 1)) (h1 : 1 ≤ c.f) (h2 : c.f ≤ 3) (hT : Tab w) :
    Calls Tryd.prog 61 #[.pointer (some ⟨tb, 0, none⟩), .agg #[.int .u64 k.1, .int .i64 k.2]] w fun e w' => e = .returned (.bool (majB c ((f k).getD 0))) ∧ Below w.heap.size w w' := by
  have hv : (f k).getD 0 < 4294967296 := by obtain ⟨D, _, _, h3⟩ := hm; exact (h3 k hk).2.2
  have M : ∀ w1, Below w.heap.size w w1 → Calls Tryd.prog 64 #[.pointer (some ⟨tb, 0, none⟩)] w1 fun e w' => e = .returned (.bool true) ∧ Below w1.heap.size w1 w' := fun w1 hb => sameB (bmade_at tb gb mb w1 (h.below h.lt hb))
  have L : ∀ w1, Below w.heap.size w w1 → (Instr.lookup 103 (.map (some mb)) (.agg #[.int .u64 k.1, .int .i64 k.2]) false).run Tryd.prog w1 = .ok (.int .u32 ((f k).getD 0 : Nat)) w1 := fun w1 hb => (hm.below hm.lt hb).look k hk
  have J : ∀ w1, Below w.heap.size w w1 → Calls Tryd.prog 19 #[.pointer (some ⟨gb, 0, none⟩), .int .u32 ((f k).getD 0 : Nat)] w1 fun e w' => e = .returned (.bool (majB c ((f k).getD 0))) ∧ Below w1.heap.size w1 w' := fun w1 hb =>
    majority_at gb c _ w1 (hg.below hg.lt hb) h1 h2 hv (hT.below (Nat.le_refl _) hb)
  have c0 := h.g
  have c1 := h.m
  have lt := h.lt
  replace M := Lib.hid M
  generalize (f k).getD 0 = v at L J ⊢
  replace J := Lib.hid J
  replace L := Lib.hid L
  clear h hm hg hT
  go_enter Tryd.func61, Tryd.ntmps61
  go_wp2
  refine wp_region_below (by kernel_rfl) (by kernel_rfl) ?_
  repeat first | go_big_quiet_skip | (go_big_quiet_want; go_big_quiet_op; go_big_quiet_on) | (go_big_quiet_want; rename_i K hK; apply quiet_mk; (focus (intro w1 hw1; have hc1 := (bcell hw1).1; have hf1 := (bcell hw1).2; have L1 := L.out _ (below_alloc' hw1); go_simp; first | done | rfl | (first | (go_at_call 64; (refine (M.out _ (below_alloc' hw1)).mono ?_); rintro e w2 ⟨rfl, hb2⟩; exact ⟨rfl, (hw1.trans (hb2.mono hw1.size)).mono (by simp)⟩) | (go_at_call 19; (refine (J.out _ (below_alloc' hw1)).mono ?_); rintro e w2 ⟨rfl, hb2⟩; exact ⟨rfl, (hw1.trans (hb2.mono hw1.size)).mono (by simp)⟩)))); refine hK _ ?_; clear hK K; try simp only [Act.put, List.setIfInBounds_toArray, List.set_cons_zero, List.set_cons_succ])
  refine wpQuiet_nil ?_
  intro wa hb_wa
  have hc_wa := (bcell hb_wa).1
  have hf_wa := (bcell hb_wa).2
  go_wp2
  go_ret
  exact ⟨rfl, (by repeat (first | exact Below.refl _ _ | exact hb_wa | refine Below.on ?_ hb_wa | refine Below.alloc_ ?_ _ | refine Below.drew ?_ | refine below_drewN ?_ | refine Below.setCell ?_ (by first | (simp; done) | (simp; omega)) _))⟩
theorem bspeak_node (tb gb mb : Nat) (c : Cfg) (k : Int × Int) (x : Int) (w : World) (h : TalAt w tb gb mb) (hg : GrpAt w gb c (2 * c.f + 1)) (h1 : 1 ≤ c.f) (hx : ¬ (0 ≤ x ∧ x < 2 * c.f + 1)) :
    Calls Tryd.prog 59 #[.pointer (some ⟨tb, 0, none⟩), .agg #[.int .u64 k.1, .int .i64 k.2], .int .i64 x] w fun e w' => e = .returned (.tuple #[.int .i64 0, .int .i64 182]) ∧ Below w.heap.size w w' := by
  have M := Lib.hid (bmade_any h)
  have N : ∀ w1, Below w.heap.size w w1 → Calls Tryd.prog 25 #[.pointer (some ⟨gb, 0, none⟩), .int .i64 x] w1 fun e w' => e = .returned (.bool false) ∧ w1 = w' := fun w1 hb => by
    have N := node_at gb (2 * c.f + 1) x w1 (hg.below hg.lt hb).nodes (by omega)
    rw [decide_eq_false hx] at N
    exact N
  replace N := Lib.hid N
  have c0 := h.g
  have lt := h.lt
  clear h hg hx
  go_enter Tryd.func59, Tryd.ntmps59
  go_wp2_with fail
  refine (M.out _ ?_).mono ?_
  · exact below_alloc _ _
  rintro e w1 ⟨rfl, rfl⟩
  go_wp2_with fail
  refine (N.out _ ?_).mono ?_
  · exact below_alloc _ _
  rintro e w1 ⟨rfl, rfl⟩
  go_wp2
  go_ret2
  exact ⟨rfl, (by repeat (first | with_reducible refine Below.drew ?_ | with_reducible refine below_drewN ?_ | with_reducible refine Below.alloc_ ?_ _ | with_reducible refine Below.setCell ?_ (by first | (simp; done) | (simp; omega)) _ | with_reducible exact Below.refl _ _ ))⟩
set_option maxRecDepth 100000 in
theorem bdrop_at (tb gb mb : Nat) (f : Int × Int → Option Nat) (n : Nat) (k : Int × Int) (hk : KWf k) (w : World) (h : TalAt w tb gb mb) (hm : MapB w mb f n) :
    Calls Tryd.prog 60 #[.pointer (some ⟨tb, 0, none⟩), .agg #[.int .u64 k.1, .int .i64 k.2]] w fun e w' => (∃ v, e = .returned v) ∧ MapB w' mb (updB f k none) (delC f k n) ∧ w.grownBy w' (some mb) := by
  have M := Lib.hid (bmade_any h)
  have c1 := h.m
  have lt := h.lt
  have HM := Lib.hid hm
  clear h hm
  go_enter Tryd.func60, Tryd.ntmps60
  go_wp2_with fail
  refine (M.out _ ?_).mono ?_
  · exact below_alloc _ _
  rintro e w1 ⟨rfl, rfl⟩
  go_wp2_with fail
  refine wp_tail 5 (by kernel_rfl) (by kernel_rfl) (fun w2 hw2 => ?_)
  have hb2 : Below w.heap.size w w2 := by rw [hw2]; exact (below_alloc _ _).drew
  have d1 : w2.cell? ⟨tb, 1, none⟩ = some (.map (some mb)) := (hb2.cell (p := ⟨tb, 1, none⟩) lt).trans c1
  have d2 : w2.cell? ⟨w.heap.size, 0, none⟩ = some (.int .u64 k.1) := by rw [hw2]; simp
  have d3 : w2.cell? ⟨w.heap.size, 1, none⟩ = some (.int .i64 k.2) := by rw [hw2]; simp
  obtain ⟨w3, hr, hm3, hg3⟩ := (HM.out.below HM.out.lt hb2).del k hk 0
  have HM3 := Lib.hid hm3
  have HG0 : Hid (w.grownBy w3 (some mb)) := Lib.hid (grown_then (grown_of_below hb2 _) hg3)
  clear hw2 hm3 hg3 hb2 c1
  simp only [List.take_succ_cons, List.take_zero, List.drop_succ_cons, List.drop_zero]
  repeat still_step
  refine wpStill_nil ?_
  go_wp2_with fail
  go_end0
  exact ⟨⟨_, rfl⟩, HM3.out, HG0.out⟩
set_option maxRecDepth 100000 in
theorem bspeak_full (tb gb mb : Nat) (c : Cfg) (f : Int × Int → Option Nat) (n : Nat) (k : Int × Int) (x : Int) (hk : KWf k) (w : World) (h : TalAt w tb gb mb) (hm : MapB w mb f n) (hg : GrpAt w gb c (2 * c.f + 1)) (h1 : 1 ≤ c.f)
    (hx : 0 ≤ x ∧ x < 2 * c.f + 1) (hf : f k = none) (hn : 64 ≤ n) :
    Calls Tryd.prog 59 #[.pointer (some ⟨tb, 0, none⟩), .agg #[.int .u64 k.1, .int .i64 k.2], .int .i64 x] w fun e w' => e = .returned (.tuple #[.int .i64 0, .int .i64 185]) ∧ Below w.heap.size w w' := by
  have M := Lib.hid (bmade_any h)
  have N : ∀ w1, Below w.heap.size w w1 → Calls Tryd.prog 25 #[.pointer (some ⟨gb, 0, none⟩), .int .i64 x] w1 fun e w' => e = .returned (.bool true) ∧ w1 = w' := fun w1 hb => by
    have N := node_at gb (2 * c.f + 1) x w1 (hg.below hg.lt hb).nodes (by omega)
    rw [decide_eq_true hx] at N
    exact N
  replace N := Lib.hid N
  have c0 := h.g
  have c1 := h.m
  have lt := h.lt
  have HM := Lib.hid hm
  have L : ∀ w1, Below w.heap.size w w1 → (Instr.lookup 103 (.map (some mb)) (.agg #[.int .u64 k.1, .int .i64 k.2]) true).run Tryd.prog w1 = .ok (.tuple #[.int .u32 0, .bool false]) w1 := fun w1 hb => by
    have := (hm.below hm.lt hb).lookOk k hk
    rw [hf] at this
    exact this
  replace L := Lib.hid L
  have hn' : (64 : Int) ≤ (n : Nat) := by omega
  clear h hm hg hx hf hn
  go_enter Tryd.func59, Tryd.ntmps59
  go_wp2_with fail
  refine (M.out _ ?_).mono ?_
  · exact below_alloc _ _
  rintro e w1 ⟨rfl, rfl⟩
  go_wp2_with fail
  refine (N.out _ ?_).mono ?_
  · exact below_alloc _ _
  rintro e w1 ⟨rfl, rfl⟩
  go_wp2_with fail
  refine wp_region_below (by kernel_rfl) (by kernel_rfl) ?_
  repeat first | go_big_quiet_skip | (go_big_quiet_want; go_big_quiet_op; go_big_quiet_on) | (go_big_quiet_want; rename_i K hK; apply quiet_mk; (focus (intro w1 hw1; have hc1 := (bcell hw1).1; have hf1 := (bcell hw1).2; have L1 := L.out _ (below_alloc' hw1); go_simp; first | done | rfl | (fail))); refine hK _ ?_; clear hK K; try simp only [Act.put, List.setIfInBounds_toArray, List.set_cons_zero, List.set_cons_succ])
  refine wpQuiet_nil ?_
  intro wa hb_wa
  have hc_wa := (bcell hb_wa).1
  have hf_wa := (bcell hb_wa).2
  have LN := fun ty => (HM.out.below HM.out.lt (below_alloc' hb_wa)).len ty
  go_wp2
  go_ret2
  exact ⟨rfl, (by repeat (first | exact Below.refl _ _ | exact hb_wa | refine Below.on ?_ hb_wa | refine Below.alloc_ ?_ _ | refine Below.drew ?_ | refine below_drewN ?_ | refine Below.setCell ?_ (by first | (simp; done) | (simp; omega)) _))⟩
set_option maxRecDepth 100000 in
set_option maxHeartbeats 1600000 in
theorem bspeak_ok (tb gb mb : Nat) (c : Cfg) (f : Int × Int → Option Nat) (n : Nat) (k : Int × Int) (x : Int) (hk : KWf k) (w : World) (h : TalAt w tb gb mb) (hm : MapB w mb f n) (hg : GrpAt w gb c (2 * c.f + 1)) (h1 : 1 ≤ c.f)
    (hx : 0 ≤ x ∧ x < 2 * c.f + 1) (hf : f k = none → n < 64) (hT : Tab w) (hne : mb ≠ tb) (htm : 0 ≠ mb) (hnm : n < maxLen) :
    Calls Tryd.prog 59 #[.pointer (some ⟨tb, 0, none⟩), .agg #[.int .u64 k.1, .int .i64 k.2], .int .i64 x] w fun e w' => e = .returned (.tuple #[.int .i64 (cardB (withB ((f k).getD 0) x) : Nat), .int .i64 0]) ∧
      MapB w' mb (updB f k (some (withB ((f k).getD 0) x))) (putC f k n) ∧ w.grownBy w' (some mb) := by
  have M := Lib.hid (bmade_any h)
  have N : ∀ w1, Below w.heap.size w w1 → Calls Tryd.prog 25 #[.pointer (some ⟨gb, 0, none⟩), .int .i64 x] w1 fun e w' => e = .returned (.bool true) ∧ w1 = w' := fun w1 hb => by
    have N := node_at gb (2 * c.f + 1) x w1 (hg.below hg.lt hb).nodes (by omega)
    rw [decide_eq_true hx] at N
    exact N
  replace N := Lib.hid N
  have c0 := h.g
  have c1 := h.m
  have lt := h.lt
  have hv : (f k).getD 0 < 4294967296 := by obtain ⟨D, _, _, h3⟩ := hm; exact (h3 k hk).2.2
  have HM := Lib.hid hm
  have HT := Lib.hid hT
  have TL := Lib.hid h.lt
  have L : ∀ w1, Below w.heap.size w w1 → (Instr.lookup 103 (.map (some mb)) (.agg #[.int .u64 k.1, .int .i64 k.2]) true).run Tryd.prog w1 = .ok (.tuple #[.int .u32 ((f k).getD 0 : Nat), .bool (f k).isSome]) w1 := fun w1 hb => (hm.below hm.lt hb).lookOk k hk
  generalize hgd : (f k).getD 0 = v at L hv ⊢
  have hw := withB_lt x hv
  have key : (f k).isSome = true ∨ ((f k).isSome = false ∧ ((n : Nat) : Int) < 64) := by
    rcases hfk : f k with _ | u
    · exact .inr ⟨rfl, by have := hf hfk; omega⟩
    · exact .inl rfl
  generalize (f k).isSome = bb at L key
  replace L := Lib.hid L
  replace hgd := Lib.hid hgd
  clear h hm hg hx hf hT
  rcases key with rfl | ⟨rfl, hn'⟩
  · go_enter Tryd.func59, Tryd.ntmps59
    go_wp2_with fail
    refine (M.out _ ?_).mono ?_
    · exact below_alloc _ _
    rintro e w1 ⟨rfl, rfl⟩
    go_wp2_with fail
    refine (N.out _ ?_).mono ?_
    · exact below_alloc _ _
    rintro e w1 ⟨rfl, rfl⟩
    go_wp2_with fail
    refine wp_region_below (by kernel_rfl) (by kernel_rfl) ?_
    repeat first | go_big_quiet_skip | (go_big_quiet_want; go_big_quiet_op; go_big_quiet_on) | (go_big_quiet_want; rename_i K hK; apply quiet_mk; (focus (intro w1 hw1; have hc1 := (bcell hw1).1; have hf1 := (bcell hw1).2; have L1 := L.out _ (below_alloc' hw1); go_simp; first | done | rfl | (fail))); refine hK _ ?_; clear hK K; try simp only [Act.put, List.setIfInBounds_toArray, List.set_cons_zero, List.set_cons_succ])
    refine wpQuiet_nil ?_
    intro wa hb_wa
    have hc_wa := (bcell hb_wa).1
    have hf_wa := (bcell hb_wa).2
    have d2 : wa.cell? ⟨w.heap.size, 0, none⟩ = some (.int .u64 k.1) := (hb_wa.cell (p := ⟨w.heap.size, 0, none⟩) (by simp)).trans (by simp)
    have d3 : wa.cell? ⟨w.heap.size, 1, none⟩ = some (.int .i64 k.2) := (hb_wa.cell (p := ⟨w.heap.size, 1, none⟩) (by simp)).trans (by simp)
    have hba := below_alloc' hb_wa
    have hbs : w.heap.size < wa.heap.size := Nat.lt_of_lt_of_le (by simp) hb_wa.size
    have d1 : wa.cell? ⟨tb, 1, none⟩ = some (.map (some mb)) := (hba.cell (p := ⟨tb, 1, none⟩) lt).trans c1
    go_wp2_with fail
    refine wp_tail 13 (by kernel_rfl) (by kernel_rfl) (fun w2 hw2 => ?_)
    have hb2 : Below wa.heap.size wa w2 := by rw [hw2]; exact (Below.refl _ _).drew
    have e1 : w2.cell? ⟨tb, 1, none⟩ = some (.map (some mb)) := (hb2.cell (p := ⟨tb, 1, none⟩) (Nat.lt_of_lt_of_le lt hba.size)).trans d1
    have e2 : w2.cell? ⟨w.heap.size, 0, none⟩ = some (.int .u64 k.1) := (hb2.cell (p := ⟨w.heap.size, 0, none⟩) hbs).trans d2
    have e3 : w2.cell? ⟨w.heap.size, 1, none⟩ = some (.int .i64 k.2) := (hb2.cell (p := ⟨w.heap.size, 1, none⟩) hbs).trans d3
    have hbb : Below w.heap.size w w2 := hba.trans (hb2.mono hba.size)
    have HM2 := Lib.hid (HM.out.below HM.out.lt hbb)
    have L2 := HM2.out.look k hk
    rw [hgd.out] at L2
    obtain ⟨w3, hr, hm3, hg3⟩ := HM2.out.put k hk (withB v x) hw hnm
    have f1 : w3.cell? ⟨tb, 1, none⟩ = some (.map (some mb)) := (World.cell?_of_block (hg3.block tb (Nat.lt_of_lt_of_le TL.out hbb.size) (fun e => hne (by injection e with e; exact e.symm)))).trans e1
    have hbm : w.heap.size ≠ mb := fun e => Nat.lt_irrefl _ (Nat.lt_of_lt_of_eq HM.out.lt e)
    have f2 : w3.cell? ⟨w.heap.size, 0, none⟩ = some (.int .u64 k.1) := (World.cell?_of_block (hg3.block w.heap.size (Nat.lt_of_lt_of_le hbs hb2.size) (fun e => hbm (by injection e)))).trans e2
    have f3 : w3.cell? ⟨w.heap.size, 1, none⟩ = some (.int .i64 k.2) := (World.cell?_of_block (hg3.block w.heap.size (Nat.lt_of_lt_of_le hbs hb2.size) (fun e => hbm (by injection e)))).trans e3
    have hu : (updB f k (some (withB v x)) k).getD 0 = withB v x := by simp [updB]
    have L3 : ∀ w1, Below w3.heap.size w3 w1 → (Instr.lookup 103 (.map (some mb)) (.agg #[.int .u64 k.1, .int .i64 k.2]) false).run Tryd.prog w1 = .ok (.int .u32 (withB v x : Nat)) w1 := fun w1 hb => by
      have := (hm3.below hm3.lt hb).look k hk
      rw [hu] at this
      exact this
    replace L3 := Lib.hid L3
    have HM3 := Lib.hid hm3
    have HG0 : Hid (w.grownBy w3 (some mb)) := Lib.hid (grown_then (grown_of_below hbb _) hg3)
    have HT3 := Lib.hid (Tab.turned HT.out HG0.out htm)
    have q1 : tb < w3.heap.size := Nat.lt_of_lt_of_le TL.out HG0.out.size
    have q2 : w.heap.size < w3.heap.size := Nat.lt_of_lt_of_le (Nat.lt_of_lt_of_le hbs hb2.size) hg3.size
    clear hw2 hm3 hg3 hu hb2 hbb hba d1 d2 d3 c1 c0 hc_wa hf_wa hb_wa hbs
    simp only [List.take_succ_cons, List.take_zero, List.drop_succ_cons, List.drop_zero]
    repeat still_step
    refine wpStill_step (fun K hK => ?_)
    go_simp
    refine ⟨_, (with_any v x w2 hv).mono (fun e w1 h => ⟨h.1, h.2.symm⟩), hK _ ?_⟩
    clear hK K
    refine wpStill_nil ?_
    go_wp2_with fail
    refine wp_region_below (by kernel_rfl) (by kernel_rfl) ?_
    repeat first | go_big_quiet_skip | (go_big_quiet_want; go_big_quiet_op; go_big_quiet_on) | (go_big_quiet_want; rename_i K hK; apply quiet_mk; (focus (intro w1 hw1; have hc1 := (bcell hw1).1; have hf1 := (bcell hw1).2; have L4 := L3.out _ hw1; go_simp; first | done | rfl | (first | (go_at_call 15; (refine (count_any (withB v x) _ hw (Tab.below HT3.out (Nat.le_refl _) hw1)).mono ?_); rintro e w2 ⟨rfl, hb2⟩; exact ⟨rfl, (hw1.trans (hb2.mono hw1.size)).mono (by simp)⟩)))); refine hK _ ?_; clear hK K; try simp only [Act.put, List.setIfInBounds_toArray, List.set_cons_zero, List.set_cons_succ])
    refine wpQuiet_nil ?_
    intro wc hb_wc
    have hc_wc := (bcell hb_wc).1
    have hf_wc := (bcell hb_wc).2
    go_wp2
    go_ret2
    exact ⟨rfl, HM3.out.below HM3.out.lt hb_wc, grown_then HG0.out (grown_of_below hb_wc _)⟩
  · go_enter Tryd.func59, Tryd.ntmps59
    go_wp2_with fail
    refine (M.out _ ?_).mono ?_
    · exact below_alloc _ _
    rintro e w1 ⟨rfl, rfl⟩
    go_wp2_with fail
    refine (N.out _ ?_).mono ?_
    · exact below_alloc _ _
    rintro e w1 ⟨rfl, rfl⟩
    go_wp2_with fail
    refine wp_region_below (by kernel_rfl) (by kernel_rfl) ?_
    repeat first | go_big_quiet_skip | (go_big_quiet_want; go_big_quiet_op; go_big_quiet_on) | (go_big_quiet_want; rename_i K hK; apply quiet_mk; (focus (intro w1 hw1; have hc1 := (bcell hw1).1; have hf1 := (bcell hw1).2; have L1 := L.out _ (below_alloc' hw1); go_simp; first | done | rfl | (fail))); refine hK _ ?_; clear hK K; try simp only [Act.put, List.setIfInBounds_toArray, List.set_cons_zero, List.set_cons_succ])
    refine wpQuiet_nil ?_
    intro wa hb_wa
    have hc_wa := (bcell hb_wa).1
    have hf_wa := (bcell hb_wa).2
    have LN := fun ty => (HM.out.below HM.out.lt (below_alloc' hb_wa)).len ty
    have d2 : wa.cell? ⟨w.heap.size, 0, none⟩ = some (.int .u64 k.1) := (hb_wa.cell (p := ⟨w.heap.size, 0, none⟩) (by simp)).trans (by simp)
    have d3 : wa.cell? ⟨w.heap.size, 1, none⟩ = some (.int .i64 k.2) := (hb_wa.cell (p := ⟨w.heap.size, 1, none⟩) (by simp)).trans (by simp)
    have hba := below_alloc' hb_wa
    have hbs : w.heap.size < wa.heap.size := Nat.lt_of_lt_of_le (by simp) hb_wa.size
    have d1 : wa.cell? ⟨tb, 1, none⟩ = some (.map (some mb)) := (hba.cell (p := ⟨tb, 1, none⟩) lt).trans c1
    go_wp2_with fail
    refine wp_tail 13 (by kernel_rfl) (by kernel_rfl) (fun w2 hw2 => ?_)
    have hb2 : Below wa.heap.size wa w2 := by rw [hw2]; exact (Below.refl _ _).drew
    have e1 : w2.cell? ⟨tb, 1, none⟩ = some (.map (some mb)) := (hb2.cell (p := ⟨tb, 1, none⟩) (Nat.lt_of_lt_of_le lt hba.size)).trans d1
    have e2 : w2.cell? ⟨w.heap.size, 0, none⟩ = some (.int .u64 k.1) := (hb2.cell (p := ⟨w.heap.size, 0, none⟩) hbs).trans d2
    have e3 : w2.cell? ⟨w.heap.size, 1, none⟩ = some (.int .i64 k.2) := (hb2.cell (p := ⟨w.heap.size, 1, none⟩) hbs).trans d3
    have hbb : Below w.heap.size w w2 := hba.trans (hb2.mono hba.size)
    have HM2 := Lib.hid (HM.out.below HM.out.lt hbb)
    have L2 := HM2.out.look k hk
    rw [hgd.out] at L2
    obtain ⟨w3, hr, hm3, hg3⟩ := HM2.out.put k hk (withB v x) hw hnm
    have f1 : w3.cell? ⟨tb, 1, none⟩ = some (.map (some mb)) := (World.cell?_of_block (hg3.block tb (Nat.lt_of_lt_of_le TL.out hbb.size) (fun e => hne (by injection e with e; exact e.symm)))).trans e1
    have hbm : w.heap.size ≠ mb := fun e => Nat.lt_irrefl _ (Nat.lt_of_lt_of_eq HM.out.lt e)
    have f2 : w3.cell? ⟨w.heap.size, 0, none⟩ = some (.int .u64 k.1) := (World.cell?_of_block (hg3.block w.heap.size (Nat.lt_of_lt_of_le hbs hb2.size) (fun e => hbm (by injection e)))).trans e2
    have f3 : w3.cell? ⟨w.heap.size, 1, none⟩ = some (.int .i64 k.2) := (World.cell?_of_block (hg3.block w.heap.size (Nat.lt_of_lt_of_le hbs hb2.size) (fun e => hbm (by injection e)))).trans e3
    have hu : (updB f k (some (withB v x)) k).getD 0 = withB v x := by simp [updB]
    have L3 : ∀ w1, Below w3.heap.size w3 w1 → (Instr.lookup 103 (.map (some mb)) (.agg #[.int .u64 k.1, .int .i64 k.2]) false).run Tryd.prog w1 = .ok (.int .u32 (withB v x : Nat)) w1 := fun w1 hb => by
      have := (hm3.below hm3.lt hb).look k hk
      rw [hu] at this
      exact this
    replace L3 := Lib.hid L3
    have HM3 := Lib.hid hm3
    have HG0 : Hid (w.grownBy w3 (some mb)) := Lib.hid (grown_then (grown_of_below hbb _) hg3)
    have HT3 := Lib.hid (Tab.turned HT.out HG0.out htm)
    have q1 : tb < w3.heap.size := Nat.lt_of_lt_of_le TL.out HG0.out.size
    have q2 : w.heap.size < w3.heap.size := Nat.lt_of_lt_of_le (Nat.lt_of_lt_of_le hbs hb2.size) hg3.size
    clear hw2 hm3 hg3 hu hb2 hbb hba d1 d2 d3 c1 c0 hc_wa hf_wa hb_wa hbs
    simp only [List.take_succ_cons, List.take_zero, List.drop_succ_cons, List.drop_zero]
    repeat still_step
    refine wpStill_step (fun K hK => ?_)
    go_simp
    refine ⟨_, (with_any v x w2 hv).mono (fun e w1 h => ⟨h.1, h.2.symm⟩), hK _ ?_⟩
    clear hK K
    refine wpStill_nil ?_
    go_wp2_with fail
    refine wp_region_below (by kernel_rfl) (by kernel_rfl) ?_
    repeat first | go_big_quiet_skip | (go_big_quiet_want; go_big_quiet_op; go_big_quiet_on) | (go_big_quiet_want; rename_i K hK; apply quiet_mk; (focus (intro w1 hw1; have hc1 := (bcell hw1).1; have hf1 := (bcell hw1).2; have L4 := L3.out _ hw1; go_simp; first | done | rfl | (first | (go_at_call 15; (refine (count_any (withB v x) _ hw (Tab.below HT3.out (Nat.le_refl _) hw1)).mono ?_); rintro e w2 ⟨rfl, hb2⟩; exact ⟨rfl, (hw1.trans (hb2.mono hw1.size)).mono (by simp)⟩)))); refine hK _ ?_; clear hK K; try simp only [Act.put, List.setIfInBounds_toArray, List.set_cons_zero, List.set_cons_succ])
    refine wpQuiet_nil ?_
    intro wc hb_wc
    have hc_wc := (bcell hb_wc).1
    have hf_wc := (bcell hb_wc).2
    go_wp2
    go_ret2
    exact ⟨rfl, HM3.out.below HM3.out.lt hb_wc, grown_then HG0.out (grown_of_below hb_wc _)⟩
end Go.Proofs.YtehmbcpgendkjaaDoor
