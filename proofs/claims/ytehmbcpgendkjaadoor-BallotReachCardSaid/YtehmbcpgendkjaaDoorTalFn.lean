import Derived.Test.YtehmbcpgendkjaaDoorTal
namespace Go.Proofs.YtehmbcpgendkjaaDoor
open Go.RowKit Go.Maps
set_option linter.unusedSimpArgs false
set_option linter.unusedVariables false
/-- In block tb lies a tally: its group and its map. -/
structure TalAt (w : World) (tb gb mb : Nat) : Prop where
  lt : tb < w.heap.size
  g : w.cell? ⟨tb, 0, none⟩ = some (.pointer (some ⟨gb, 0, none⟩))
  m : w.cell? ⟨tb, 1, none⟩ = some (.map (some mb))
theorem grown_of_below {w w' : World} (h : Below w.heap.size w w') (row : Option Nat) : w.grownBy w' row := ⟨h.os, h.tape, h.output, h.size, fun k hk _ => h.block k hk⟩
theorem grown_then {a b c : World} {row : Option Nat} (h : a.grownBy b row) (k : b.grownBy c row) : a.grownBy c row :=
  ⟨k.os.trans h.os, k.tape.trans h.tape, k.output.trans h.output, Nat.le_trans h.size k.size, fun i hi hne => (k.block i (Nat.lt_of_lt_of_le hi h.size) hne).trans (h.block i hi hne)⟩
theorem Tab.turned {w w' : World} {mb : Nat} (h : Tab w) (hg : w.grownBy w' (some mb)) (hne : 0 ≠ mb) : Tab w' :=
  ⟨Nat.lt_of_lt_of_le h.1 hg.size, fun j hj => (World.cell?_of_block (hg.block 0 h.1 (fun e => hne (by injection e)))).trans (h.2 j hj)⟩
theorem GrpAt.turned {w w' : World} {b mb : Nat} {c : Cfg} {n : Int} (h : GrpAt w b c n) (hg : w.grownBy w' (some mb)) (hne : b ≠ mb) : GrpAt w' b c n := by
  have hc : ∀ o, w'.cell? ⟨b, o, none⟩ = w.cell? ⟨b, o, none⟩ := fun o => World.cell?_of_block (hg.block b h.lt (fun e => hne (by injection e)))
  exact ⟨Nat.lt_of_lt_of_le h.lt hg.size, (hc 0).trans h.f, (hc 1).trans h.mb, (hc 2).trans h.dl, (hc 3).trans h.wd, (hc 4).trans h.ev, (hc 5).trans h.bt, (hc 6).trans h.ep, (hc 7).trans h.em, (hc 8).trans h.mn, (hc 9).trans h.ms, (hc 10).trans h.nodes⟩
theorem TalAt.turned {w w' : World} {tb gb mb mb' : Nat} (h : TalAt w tb gb mb) (hg : w.grownBy w' (some mb')) (hne : tb ≠ mb') : TalAt w' tb gb mb := by
  have hc : ∀ o, w'.cell? ⟨tb, o, none⟩ = w.cell? ⟨tb, o, none⟩ := fun o => World.cell?_of_block (hg.block tb h.lt (fun e => hne (by injection e)))
  exact ⟨Nat.lt_of_lt_of_le h.lt hg.size, (hc 0).trans h.g, (hc 1).trans h.m⟩
theorem TalAt.below {w w' : World} {tb gb mb B : Nat} (h : TalAt w tb gb mb) (hB : tb < B) (hb : Below B w w') : TalAt w' tb gb mb :=
  ⟨Nat.lt_of_lt_of_le h.lt hb.size, (hb.cell (p := ⟨tb, 0, none⟩) hB).trans h.g, (hb.cell (p := ⟨tb, 1, none⟩) hB).trans h.m⟩
/-- No NewTally made it. -/
def NoTal (w : World) (p : Option Addr) : Prop := p = none ∨ ∃ b, p = some ⟨b, 0, none⟩ ∧ w.cell? ⟨b, 0, none⟩ = some (.pointer none)
theorem tmade_not (p : Option Addr) (w : World) (h : NoTal w p) : Calls Tryd.prog 62 #[.pointer p] w fun e w' => e = .returned (.bool false) ∧ w = w' := by
  rcases h with rfl | ⟨b, rfl, hc⟩
  · go_enter Tryd.func62, Tryd.ntmps62
    go_wp2
    go_ret
    exact ⟨rfl, rfl⟩
  · go_enter Tryd.func62, Tryd.ntmps62
    go_wp2
    go_ret
    exact ⟨rfl, rfl⟩
theorem tmade_at (tb gb mb : Nat) (w : World) (h : TalAt w tb gb mb) : Calls Tryd.prog 62 #[.pointer (some ⟨tb, 0, none⟩)] w fun e w' => e = .returned (.bool true) ∧ w = w' := by
  have h0 := h.g
  clear h
  go_enter Tryd.func62, Tryd.ntmps62
  go_wp2
  go_ret
  exact ⟨rfl, rfl⟩
theorem tspeak_not (p : Option Addr) (k x : Int) (w : World) (h : NoTal w p) : Calls Tryd.prog 46 #[.pointer p, .int .u64 k, .int .i64 x] w fun e w' => e = .returned (.tuple #[.int .i64 0, .int .i64 3]) ∧ w = w' := by
  have M := Lib.hid (tmade_not p w h)
  clear h
  go_enter Tryd.func46, Tryd.ntmps46
  go_wp2_with (go_at_call 62; refine M.out.mono ?_; rintro e w1 ⟨rfl, rfl⟩)
  go_ret2
  exact ⟨rfl, rfl⟩
theorem tdrop_not (p : Option Addr) (k : Int) (w : World) (h : NoTal w p) : Calls Tryd.prog 45 #[.pointer p, .int .u64 k] w fun e w' => (∃ v, e = .returned v) ∧ w = w' := by
  have M := Lib.hid (tmade_not p w h)
  clear h
  go_enter Tryd.func45, Tryd.ntmps45
  go_wp2_with (go_at_call 62; refine M.out.mono ?_; rintro e w1 ⟨rfl, rfl⟩)
  go_end0
  exact ⟨⟨_, rfl⟩, rfl⟩
theorem tnodes_not (p : Option Addr) (k : Int) (w : World) (h : NoTal w p) : Calls Tryd.prog 39 #[.pointer p, .int .u64 k] w fun e w' => e = .returned (.int .u32 0) ∧ w = w' := by
  have M := Lib.hid (tmade_not p w h)
  clear h
  go_enter Tryd.func39, Tryd.ntmps39
  go_wp2_with (go_at_call 62; refine M.out.mono ?_; rintro e w1 ⟨rfl, rfl⟩)
  go_ret
  exact ⟨rfl, rfl⟩
theorem tlen_not (p : Option Addr) (w : World) (h : NoTal w p) : Calls Tryd.prog 42 #[.pointer p] w fun e w' => e = .returned (.int .i64 0) ∧ w = w' := by
  have M := Lib.hid (tmade_not p w h)
  clear h
  go_enter Tryd.func42, Tryd.ntmps42
  go_wp2_with (go_at_call 62; refine M.out.mono ?_; rintro e w1 ⟨rfl, rfl⟩)
  go_ret
  exact ⟨rfl, rfl⟩
theorem treached_not (p : Option Addr) (k : Int) (w : World) (h : NoTal w p) : Calls Tryd.prog 47 #[.pointer p, .int .u64 k] w fun e w' => e = .returned (.bool false) ∧ Below w.heap.size w w' := by
  have MB : ∀ w1, Below w.heap.size w w1 → Calls Tryd.prog 62 #[.pointer p] w1 fun e w' => e = .returned (.bool false) ∧ Below w1.heap.size w1 w' := fun w1 hb => sameB (tmade_not p w1 (by
    rcases h with h | ⟨b, h1, h2⟩
    · exact .inl h
    · refine .inr ⟨b, h1, (hb.cell (p := ⟨b, 0, none⟩) ?_).trans h2⟩
      by_cases hlt : b < w.heap.size
      · exact hlt
      · unfold World.cell? at h2
        rw [Array.getElem?_eq_none (show w.heap.size ≤ b by omega)] at h2
        simp at h2))
  replace MB := Lib.hid MB
  clear h
  go_enter Tryd.func47, Tryd.ntmps47
  go_wp2
  refine wp_region_below (by kernel_rfl) (by kernel_rfl) ?_
  repeat first | go_big_quiet_skip | (go_big_quiet_want; go_big_quiet_op; go_big_quiet_on) | (go_big_quiet_want; rename_i K hK; apply quiet_mk; (focus (intro w1 hw1; have hc1 := (bcell hw1).1; have hf1 := (bcell hw1).2; go_simp; first | done | rfl | (first | (go_at_call 62; (refine (MB.out _ hw1).mono ?_); rintro e w2 ⟨rfl, hb2⟩; exact ⟨rfl, (hw1.trans (hb2.mono hw1.size)).mono (by simp)⟩)))); refine hK _ ?_; clear hK K; try simp only [Act.put, List.setIfInBounds_toArray, List.set_cons_zero, List.set_cons_succ])
  refine wpQuiet_nil ?_
  intro wa hb_wa
  have hc_wa := (bcell hb_wa).1
  have hf_wa := (bcell hb_wa).2
  go_wp2
  go_ret
  exact ⟨rfl, (by repeat (first | exact Below.refl _ _ | exact hb_wa | refine Below.on ?_ hb_wa | refine Below.alloc_ ?_ _ | refine Below.drew ?_ | refine below_drewN ?_ | refine Below.setCell ?_ (by first | (simp; done) | (simp; omega)) _))⟩
theorem tnew_at (gb : Nat) (c : Cfg) (w : World) (hg : GrpAt w gb c (2 * c.f + 1)) (h1 : 1 ≤ c.f) : Calls Tryd.prog 34 #[.pointer (some ⟨gb, 0, none⟩)] w fun e w' =>
    ∃ tb mb, e = .returned (.pointer (some ⟨tb, 0, none⟩)) ∧ TalAt w' tb gb mb ∧ MapIs w' mb (fun _ => none) 0 ∧ w.heap.size ≤ mb ∧ w.heap.size ≤ tb ∧ mb ≠ tb ∧ Below w.heap.size w w' := by
  have M := made_at gb (2 * c.f + 1) w hg.nodes
  rw [show decide (0 < 2 * c.f + 1) = true from decide_eq_true (by omega)] at M
  replace M := Lib.hid M
  clear hg
  have hmm := @run_makeMap Tryd.prog
  go_enter Tryd.func34, Tryd.ntmps34
  go_wp2_with (go_at_call 54; refine M.out.mono ?_; rintro e w1 ⟨rfl, rfl⟩)
  go_ret
  exact ⟨_, _, rfl, ⟨by simp, by simp, by simp⟩, (MapIs.made w).kept (World.grownBy_alloc _ _ none) (by simp), by simp, by simp, by simp, (by repeat (first | with_reducible refine Below.drew ?_ | with_reducible refine below_drewN ?_ | with_reducible refine Below.alloc_ ?_ _ | with_reducible refine Below.setCell ?_ (by first | (simp; done) | (simp; omega)) _ | with_reducible exact Below.refl _ _ ))⟩
theorem tnew_not (p : Option Addr) (w : World) (h : NotMade w p) : Calls Tryd.prog 34 #[.pointer p] w fun e w' => e = .returned (.pointer none) ∧ w = w' := by
  have M := Lib.hid (made_not p w h)
  clear h
  go_enter Tryd.func34, Tryd.ntmps34
  go_wp2_with (go_at_call 54; refine M.out.mono ?_; rintro e w1 ⟨rfl, rfl⟩)
  go_ret
  exact ⟨rfl, rfl⟩
theorem tnodes_at (tb gb mb : Nat) (f : Int → Option Nat) (n : Nat) (k : Int) (hk : (Lit.int .u64 k).wf = true) (w : World) (h : TalAt w tb gb mb) (hm : MapIs w mb f n) :
    Calls Tryd.prog 39 #[.pointer (some ⟨tb, 0, none⟩), .int .u64 k] w fun e w' => e = .returned (.int .u32 ((f k).getD 0 : Nat)) ∧ w = w' := by
  have M := Lib.hid (tmade_at tb gb mb w h)
  have c1 := h.m
  have L := hm.look k hk
  clear h hm
  go_enter Tryd.func39, Tryd.ntmps39
  go_wp2_with (go_at_call 62; refine M.out.mono ?_; rintro e w1 ⟨rfl, rfl⟩)
  go_ret
  exact ⟨rfl, rfl⟩
theorem tlen_at (tb gb mb : Nat) (f : Int → Option Nat) (n : Nat) (w : World) (h : TalAt w tb gb mb) (hm : MapIs w mb f n) :
    Calls Tryd.prog 42 #[.pointer (some ⟨tb, 0, none⟩)] w fun e w' => e = .returned (.int .i64 (n : Nat)) ∧ w = w' := by
  have M := Lib.hid (tmade_at tb gb mb w h)
  have c1 := h.m
  have L := fun ty => hm.len ty
  clear h hm
  go_enter Tryd.func42, Tryd.ntmps42
  go_wp2_with (go_at_call 62; refine M.out.mono ?_; rintro e w1 ⟨rfl, rfl⟩)
  go_ret
  exact ⟨rfl, rfl⟩
set_option maxRecDepth 100000 in
theorem tdrop_at (tb gb mb : Nat) (f : Int → Option Nat) (n : Nat) (k : Int) (hk : (Lit.int .u64 k).wf = true) (w : World) (h : TalAt w tb gb mb) (hm : MapIs w mb f n) :
    Calls Tryd.prog 45 #[.pointer (some ⟨tb, 0, none⟩), .int .u64 k] w fun e w' => (∃ v, e = .returned v) ∧ MapIs w' mb (updM f k none) (delN f k n) ∧ w.grownBy w' (some mb) := by
  have M := Lib.hid (tmade_at tb gb mb w h)
  have c1 := h.m
  obtain ⟨w', hr, hm', hg⟩ := hm.del k hk 0
  have HM := Lib.hid hm'
  have HG := Lib.hid hg
  clear h hm hm' hg
  go_enter Tryd.func45, Tryd.ntmps45
  go_wp2_with (go_at_call 62; refine M.out.mono ?_; rintro e w1 ⟨rfl, rfl⟩)
  go_end0
  exact ⟨⟨_, rfl⟩, HM.out, HG.out⟩
theorem tspeak_node (tb gb mb : Nat) (c : Cfg) (k x : Int) (w : World) (h : TalAt w tb gb mb) (hg : GrpAt w gb c (2 * c.f + 1)) (h1 : 1 ≤ c.f) (hx : ¬ (0 ≤ x ∧ x < 2 * c.f + 1)) :
    Calls Tryd.prog 46 #[.pointer (some ⟨tb, 0, none⟩), .int .u64 k, .int .i64 x] w fun e w' => e = .returned (.tuple #[.int .i64 0, .int .i64 182]) ∧ w = w' := by
  have M := Lib.hid (tmade_at tb gb mb w h)
  have N := node_at gb (2 * c.f + 1) x w hg.nodes (by omega)
  rw [decide_eq_false hx] at N
  replace N := Lib.hid N
  have c0 := h.g
  clear h hg hx
  go_enter Tryd.func46, Tryd.ntmps46
  go_wp2_with fail
  refine M.out.mono ?_
  rintro e w1 ⟨rfl, rfl⟩
  go_wp2_with fail
  refine N.out.mono ?_
  rintro e w1 ⟨rfl, rfl⟩
  go_wp2
  go_ret2
  exact ⟨rfl, rfl⟩
theorem tspeak_full (tb gb mb : Nat) (c : Cfg) (f : Int → Option Nat) (n : Nat) (k x : Int) (hk : (Lit.int .u64 k).wf = true) (w : World) (h : TalAt w tb gb mb) (hm : MapIs w mb f n) (hg : GrpAt w gb c (2 * c.f + 1)) (h1 : 1 ≤ c.f)
    (hx : 0 ≤ x ∧ x < 2 * c.f + 1) (hf : f k = none) (hn : 64 ≤ n) :
    Calls Tryd.prog 46 #[.pointer (some ⟨tb, 0, none⟩), .int .u64 k, .int .i64 x] w fun e w' => e = .returned (.tuple #[.int .i64 0, .int .i64 185]) ∧ w = w' := by
  have M := Lib.hid (tmade_at tb gb mb w h)
  have N := node_at gb (2 * c.f + 1) x w hg.nodes (by omega)
  rw [decide_eq_true hx] at N
  replace N := Lib.hid N
  have c0 := h.g
  have c1 := h.m
  have L := hm.lookOk k hk
  rw [hf] at L
  have LN := fun ty => hm.len ty
  have hn' : (64 : Int) ≤ (n : Nat) := by omega
  clear h hm hg hx hf hn
  go_enter Tryd.func46, Tryd.ntmps46
  go_wp2_with fail
  refine M.out.mono ?_
  rintro e w1 ⟨rfl, rfl⟩
  go_wp2_with fail
  refine N.out.mono ?_
  rintro e w1 ⟨rfl, rfl⟩
  go_wp2
  go_ret2
  exact ⟨rfl, rfl⟩
set_option maxRecDepth 100000 in
set_option maxHeartbeats 1600000 in
theorem tspeak_ok (tb gb mb : Nat) (c : Cfg) (f : Int → Option Nat) (n : Nat) (k x : Int) (hk : (Lit.int .u64 k).wf = true) (w : World) (h : TalAt w tb gb mb) (hm : MapIs w mb f n) (hg : GrpAt w gb c (2 * c.f + 1)) (h1 : 1 ≤ c.f)
    (hx : 0 ≤ x ∧ x < 2 * c.f + 1) (hf : f k = none → n < 64) (hT : Tab w) (hne : mb ≠ tb) (htm : 0 ≠ mb) (hnm : n < maxLen) :
    Calls Tryd.prog 46 #[.pointer (some ⟨tb, 0, none⟩), .int .u64 k, .int .i64 x] w fun e w' => e = .returned (.tuple #[.int .i64 (cardB (withB ((f k).getD 0) x) : Nat), .int .i64 0]) ∧
      MapIs w' mb (updM f k (some (withB ((f k).getD 0) x))) (putN f k n) ∧ w.grownBy w' (some mb) := by
  have M := Lib.hid (tmade_at tb gb mb w h)
  have N := node_at gb (2 * c.f + 1) x w hg.nodes (by omega)
  rw [decide_eq_true hx] at N
  replace N := Lib.hid N
  have c0 := h.g
  have c1 := h.m
  have L := hm.lookOk k hk
  have hv : (f k).getD 0 < 4294967296 := by obtain ⟨D, _, _, h3⟩ := hm; exact (h3 k hk).2.2
  have HM := Lib.hid hm
  have HT := Lib.hid hT
  have TL := Lib.hid h.lt
  generalize hgd : (f k).getD 0 = v at L hv ⊢
  have hw := withB_lt x hv
  rcases hfk : f k with _ | u
  · rw [hfk] at L
    have LN := fun ty => hm.len ty
    have hn' : ((n : Nat) : Int) < 64 := by have := hf hfk; omega
    clear h hm hg hx hf hT hfk
    replace hgd := Lib.hid hgd
    go_enter Tryd.func46, Tryd.ntmps46
    go_wp2_with fail
    refine M.out.mono ?_
    rintro e w1 ⟨rfl, rfl⟩
    go_wp2_with fail
    refine N.out.mono ?_
    rintro e w1 ⟨rfl, rfl⟩
    go_wp2
    refine wp_region_still_tail 13 (by kernel_rfl) (by kernel_rfl) ?_
    obtain ⟨w2, hw2⟩ : ∃ w2 : World, w2 = w.drew := ⟨_, rfl⟩
    change wpStill _ _ w.drew (fun a' => wpList _ _ _ _ a' w.drew) _ _
    rw [← hw2]
    have hb2 : Below w.heap.size w w2 := by rw [hw2]; exact (Below.refl _ _).drew
    have d1 : w2.cell? ⟨tb, 1, none⟩ = some (.map (some mb)) := by rw [hw2]; exact c1
    have HM2 := Lib.hid (HM.out.below HM.out.lt hb2)
    have L2 := HM2.out.look k hk
    rw [hgd.out] at L2
    obtain ⟨w3, hr, hm3, hg3⟩ := HM2.out.put k hk (withB v x) hw hnm
    have d1' : w3.cell? ⟨tb, 1, none⟩ = some (.map (some mb)) := (World.cell?_of_block (hg3.block tb (Nat.lt_of_lt_of_le TL.out hb2.size) (fun e => hne (by injection e with e; exact e.symm)))).trans d1
    have L3 := hm3.look k hk
    have hu : (updM f k (some (withB v x)) k).getD 0 = withB v x := by simp [updM]
    rw [hu] at L3
    have HM3 := Lib.hid hm3
    have HG3 := Lib.hid hg3
    have HG0 : Hid (w.grownBy w3 (some mb)) := Lib.hid (grown_then (grown_of_below hb2 _) hg3)
    clear hw2 L c1 hm3 hg3 hu hb2
    simp only [List.take_succ_cons, List.take_zero, List.drop_succ_cons, List.drop_zero]
    repeat still_step
    refine wpStill_step (fun K hK => ?_)
    go_simp
    refine ⟨_, (with_any v x w2 hv).mono (fun e w1 h => ⟨h.1, h.2.symm⟩), hK _ ?_⟩
    clear hK K
    refine wpStill_nil ?_
    go_wp2_with fail
    refine (count_any (withB v x) w3 hw ?_).mono ?_
    · exact Tab.turned HT.out HG0.out htm
    rintro e w4 ⟨rfl, hb4⟩
    go_wp2
    go_ret2
    exact ⟨rfl, HM3.out.below HM3.out.lt hb4, grown_then HG0.out (grown_of_below hb4 _)⟩
  · rw [hfk] at L
    clear h hm hg hx hf hT hfk
    replace hgd := Lib.hid hgd
    go_enter Tryd.func46, Tryd.ntmps46
    go_wp2_with fail
    refine M.out.mono ?_
    rintro e w1 ⟨rfl, rfl⟩
    go_wp2_with fail
    refine N.out.mono ?_
    rintro e w1 ⟨rfl, rfl⟩
    go_wp2
    refine wp_region_still_tail 13 (by kernel_rfl) (by kernel_rfl) ?_
    obtain ⟨w2, hw2⟩ : ∃ w2 : World, w2 = w.drew := ⟨_, rfl⟩
    change wpStill _ _ w.drew (fun a' => wpList _ _ _ _ a' w.drew) _ _
    rw [← hw2]
    have hb2 : Below w.heap.size w w2 := by rw [hw2]; exact (Below.refl _ _).drew
    have d1 : w2.cell? ⟨tb, 1, none⟩ = some (.map (some mb)) := by rw [hw2]; exact c1
    have HM2 := Lib.hid (HM.out.below HM.out.lt hb2)
    have L2 := HM2.out.look k hk
    rw [hgd.out] at L2
    obtain ⟨w3, hr, hm3, hg3⟩ := HM2.out.put k hk (withB v x) hw hnm
    have d1' : w3.cell? ⟨tb, 1, none⟩ = some (.map (some mb)) := (World.cell?_of_block (hg3.block tb (Nat.lt_of_lt_of_le TL.out hb2.size) (fun e => hne (by injection e with e; exact e.symm)))).trans d1
    have L3 := hm3.look k hk
    have hu : (updM f k (some (withB v x)) k).getD 0 = withB v x := by simp [updM]
    rw [hu] at L3
    have HM3 := Lib.hid hm3
    have HG3 := Lib.hid hg3
    have HG0 : Hid (w.grownBy w3 (some mb)) := Lib.hid (grown_then (grown_of_below hb2 _) hg3)
    clear hw2 L c1 hm3 hg3 hu hb2
    simp only [List.take_succ_cons, List.take_zero, List.drop_succ_cons, List.drop_zero]
    repeat still_step
    refine wpStill_step (fun K hK => ?_)
    go_simp
    refine ⟨_, (with_any v x w2 hv).mono (fun e w1 h => ⟨h.1, h.2.symm⟩), hK _ ?_⟩
    clear hK K
    refine wpStill_nil ?_
    go_wp2_with fail
    refine (count_any (withB v x) w3 hw ?_).mono ?_
    · exact Tab.turned HT.out HG0.out htm
    rintro e w4 ⟨rfl, hb4⟩
    go_wp2
    go_ret2
    exact ⟨rfl, HM3.out.below HM3.out.lt hb4, grown_then HG0.out (grown_of_below hb4 _)⟩
theorem treached_at (tb gb mb : Nat) (c : Cfg) (f : Int → Option Nat) (n : Nat) (k : Int) (hk : (Lit.int .u64 k).wf = true) (w : World) (h : TalAt w tb gb mb) (hm : MapIs w mb f n) (hg : GrpAt w gb c (2 * c.f + 1)) (h1 : 1 ≤ c.f) (h2 : c.f ≤ 3) (hT : Tab w) :
    Calls Tryd.prog 47 #[.pointer (some ⟨tb, 0, none⟩), .int .u64 k] w fun e w' => e = .returned (.bool (majB c ((f k).getD 0))) ∧ Below w.heap.size w w' := by
  have hv : (f k).getD 0 < 4294967296 := by obtain ⟨D, _, _, h3⟩ := hm; exact (h3 k hk).2.2
  have M : ∀ w1, Below w.heap.size w w1 → Calls Tryd.prog 62 #[.pointer (some ⟨tb, 0, none⟩)] w1 fun e w' => e = .returned (.bool true) ∧ Below w1.heap.size w1 w' := fun w1 hb => sameB (tmade_at tb gb mb w1 (h.below h.lt hb))
  have L : ∀ w1, Below w.heap.size w w1 → (Instr.lookup 60 (.map (some mb)) (.int .u64 k) false).run Tryd.prog w1 = .ok (.int .u32 ((f k).getD 0 : Nat)) w1 := fun w1 hb => (hm.below hm.lt hb).look k hk
  have J : ∀ w1, Below w.heap.size w w1 → Calls Tryd.prog 19 #[.pointer (some ⟨gb, 0, none⟩), .int .u32 ((f k).getD 0 : Nat)] w1 fun e w' => e = .returned (.bool (majB c ((f k).getD 0))) ∧ Below w1.heap.size w1 w' := fun w1 hb =>
    majority_at gb c _ w1 (hg.below hg.lt hb) h1 h2 hv (hT.below (Nat.le_refl _) hb)
  have c0 := h.g
  have c1 := h.m
  have lt := h.lt
  replace M := Lib.hid M
  replace J := Lib.hid J
  clear h hm hg hT
  generalize (f k).getD 0 = v at *
  go_enter Tryd.func47, Tryd.ntmps47
  go_wp2
  refine wp_region_below (by kernel_rfl) (by kernel_rfl) ?_
  repeat first | go_big_quiet_skip | (go_big_quiet_want; go_big_quiet_op; go_big_quiet_on) | (go_big_quiet_want; rename_i K hK; apply quiet_mk; (focus (intro w1 hw1; have hc1 := (bcell hw1).1; have hf1 := (bcell hw1).2; go_simp; first | done | rfl | (first | (go_at_call 62; (refine (M.out _ hw1).mono ?_); rintro e w2 ⟨rfl, hb2⟩; exact ⟨rfl, (hw1.trans (hb2.mono hw1.size)).mono (by simp)⟩) | (go_at_call 19; (refine (J.out _ hw1).mono ?_); rintro e w2 ⟨rfl, hb2⟩; exact ⟨rfl, (hw1.trans (hb2.mono hw1.size)).mono (by simp)⟩)))); refine hK _ ?_; clear hK K; try simp only [Act.put, List.setIfInBounds_toArray, List.set_cons_zero, List.set_cons_succ])
  refine wpQuiet_nil ?_
  intro wa hb_wa
  have hc_wa := (bcell hb_wa).1
  have hf_wa := (bcell hb_wa).2
  go_wp2
  go_ret
  exact ⟨rfl, (by repeat (first | exact Below.refl _ _ | exact hb_wa | refine Below.on ?_ hb_wa | refine Below.alloc_ ?_ _ | refine Below.drew ?_ | refine below_drewN ?_ | refine Below.setCell ?_ (by first | (simp; done) | (simp; omega)) _))⟩
end Go.Proofs.YtehmbcpgendkjaaDoor
