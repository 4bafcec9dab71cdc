import Derived.Test.YtehmbcpgendkjaaDoorWord
import Derived.Test.YtehmbcpgendkjaaDoorMade
import Derived.Test.YtehmbcpgendkjaaDoorMeet
import Derived.LoopN
namespace Go.Proofs.YtehmbcpgendkjaaDoor
open Go.RowKit
set_option linter.unusedSimpArgs false
set_option linter.unusedVariables false
/-- All members are replicas. -/
def SubB (c : Cfg) (s : Nat) : Prop := s < 4294967296 ∧ ∀ i : Nat, s.testBit i = true → (i : Int) < 2 * c.f + 1
theorem SubB.zero (c : Cfg) : SubB c 0 := ⟨by decide, fun i h => by simp at h⟩
theorem SubB.with {c : Cfg} {s : Nat} {x : Int} (h : SubB c s) (hx : 0 ≤ x ∧ x < 2 * c.f + 1) : SubB c (withB s x) := by
  refine ⟨withB_lt x h.1, fun i hi => ?_⟩
  rw [withB_bit, Bool.or_eq_true, decide_eq_true_eq] at hi
  rcases hi with hi | hi
  · exact h.2 i hi
  · omega
theorem cnt_beyond {s k : Nat} (h : ∀ i, s.testBit i = true → i < k) : ∀ m, k ≤ m → cntTo s m = cntTo s k := by
  intro m
  induction m with
  | zero => intro hm; obtain rfl : k = 0 := by omega
            rfl
  | succ m ih =>
    intro hm
    by_cases e : k = m + 1
    · rw [e]
    · rw [cntTo_succ, ih (by omega)]
      have : ¬ s.testBit m = true := fun hb => by have := h m hb; omega
      simp [this]
theorem SubB.card {c : Cfg} {s : Nat} (h : SubB c s) (h1 : 1 ≤ c.f) (h2 : c.f ≤ 3) : majB c s = decide (c.f + 1 ≤ (cardB s : Int)) := by
  have := cnt_beyond (s := s) (k := (2 * c.f + 1).toNat) (fun i hi => by have := h.2 i hi; omega) 32 (by omega)
  unfold majB
  rw [← cntTo_all, this]
theorem SubB.and {c : Cfg} {s : Nat} (h : SubB c s) : s &&& allB c = s := by
  refine Nat.eq_of_testBit_eq fun i => ?_
  unfold allB
  rw [Nat.testBit_and, Nat.testBit_two_pow_sub_one]
  by_cases hb : s.testBit i = true
  · have h3 : i < (2 * c.f + 1).toNat := by have := h.2 i hb; omega
    rw [hb, decide_eq_true h3]; rfl
  · have hb' : s.testBit i = false := by simpa using hb
    rw [hb']; rfl
/-- What the two keys' speakers are, and the tally's own map. -/
def SpkSt (c : Cfg) (a b : Int) (f : Int → Option Nat) (s0 s1 : Nat) : Prop := (f a).getD 0 = s0 ∧ (f b).getD 0 = s1 ∧ SubB c s0 ∧ SubB c s1
theorem upd_hit {f : Int → Option Nat} {k a : Int} {v : Option Nat} (h : k = a) : updM f k v a = v := by unfold updM; rw [if_pos h.symm]
theorem upd_miss {f : Int → Option Nat} {k a : Int} {v : Option Nat} (h : ¬ k = a) : updM f k v a = f a := by unfold updM; rw [if_neg (fun e => h e.symm)]
theorem delN_le (f : Int → Option Nat) (k : Int) (n : Nat) : delN f k n ≤ n := by unfold delN; split <;> omega
theorem putN_le (f : Int → Option Nat) (k : Int) (n : Nat) : putN f k n ≤ n + 1 := by unfold putN; split <;> omega
/-- Inside a round: the tally's map, what was said, the word in its box. -/
structure RoundW (W0 W : World) (mb sb xb : Nat) (f : Int → Option Nat) (n s0 s1 : Nat) (x : W5) : Prop where
  but : But2 W0 W mb sb
  m : MapIs W mb f n
  c0 : W.cell? ⟨sb, 0, none⟩ = some (.int .u32 (s0 : Nat))
  c1 : W.cell? ⟨sb, 1, none⟩ = some (.int .u32 (s1 : Nat))
  f0 : W.frozen? ⟨sb, 0, none⟩ = false
  f1 : W.frozen? ⟨sb, 1, none⟩ = false
  x0 : W.cell? ⟨xb, 0, none⟩ = some (.int .i64 x.kd)
  x1 : W.cell? ⟨xb, 1, none⟩ = some (.int .u64 x.n)
  x4 : W.cell? ⟨xb, 4, none⟩ = some (.int .i64 x.nd)
theorem RoundW.below {W0 W W' : World} {mb sb xb : Nat} {f : Int → Option Nat} {n s0 s1 : Nat} {x : W5} (h : RoundW W0 W mb sb xb f n s0 s1 x) (hb : Below W.heap.size W W') : RoundW W0 W' mb sb xb f n s0 s1 x := by
  have hc : ∀ {b o v}, W.cell? ⟨b, o, none⟩ = some v → W'.cell? ⟨b, o, none⟩ = some v := fun {b o v} h => (hb.cell (p := ⟨b, o, none⟩) (cell_lt h)).trans h
  exact ⟨h.but.trans (But2.of_below hb), h.m.below h.m.lt hb, hc h.c0, hc h.c1, (hb.frozen (p := ⟨sb, 0, none⟩) (cell_lt h.c0)).trans h.f0, (hb.frozen (p := ⟨sb, 1, none⟩) (cell_lt h.c1)).trans h.f1, hc h.x0, hc h.x1, hc h.x4⟩
theorem RoundW.drewN {W0 W : World} {mb sb xb q : Nat} {f : Int → Option Nat} {n s0 s1 : Nat} {x : W5} (h : RoundW W0 W mb sb xb f n s0 s1 x) : RoundW W0 (W.drewN q) mb sb xb f n s0 s1 x := h.below (below_drewN (Below.refl _ _))
theorem RoundW.drew {W0 W : World} {mb sb xb : Nat} {f : Int → Option Nat} {n s0 s1 : Nat} {x : W5} (h : RoundW W0 W mb sb xb f n s0 s1 x) : RoundW W0 W.drew mb sb xb f n s0 s1 x := h.below (Below.refl _ _).drew
theorem RoundW.turned {W0 W W' : World} {mb sb xb : Nat} {f f' : Int → Option Nat} {n n' s0 s1 : Nat} {x : W5} (h : RoundW W0 W mb sb xb f n s0 s1 x) (hg : W.grownBy W' (some mb)) (hm : MapIs W' mb f' n') (h1 : sb ≠ mb) (h2 : xb ≠ mb) : RoundW W0 W' mb sb xb f' n' s0 s1 x := by
  have hc : ∀ {b o v}, b ≠ mb → W.cell? ⟨b, o, none⟩ = some v → W'.cell? ⟨b, o, none⟩ = some v := fun {b o v} hne h => (World.cell?_of_block (hg.block b (cell_lt h) (fun e => hne (by injection e)))).trans h
  exact ⟨h.but.trans (But2.of_grown hg), hm, hc h1 h.c0, hc h1 h.c1, (World.frozen?_of_block (hg.block sb (cell_lt h.c0) (fun e => h1 (by injection e)))).trans h.f0, (World.frozen?_of_block (hg.block sb (cell_lt h.c0) (fun e => h1 (by injection e)))).trans h.f1, hc h2 h.x0, hc h2 h.x1, hc h2 h.x4⟩
theorem MapIs.setCell {w : World} {mb : Nat} {f : Int → Option Nat} {n : Nat} (h : MapIs w mb f n) (a : Addr) (v : Value) (ha : mb ≠ a.block) : MapIs (w.setCell a v) mb f n := by
  obtain ⟨D, ⟨es, clock, h1, F, hs, hD⟩, h2, h3⟩ := h
  exact ⟨D, ⟨es, clock, (Below.heap_setCell w a v mb ha).trans h1, F, hs, hD⟩, h2, h3⟩
theorem cell_same0 {W : World} {a b : Addr} {u v : Value} (h : a ≠ b) (hs : a.spot = none) (hs' : b.spot = none) (hc : W.cell? b = some v) : (W.setCell a u).cell? b = some v := by
  by_cases hb : a.block = b.block
  · have ho : a.off ≠ b.off := fun e => h (by cases a; cases b; simp_all)
    rw [World.cell?_setCell_other _ _ _ _ h]
    exact hc
  · rw [World.cell?_setCell_far _ _ _ _ hb]
    exact hc
theorem RoundW.set0 {W0 W : World} {mb sb xb : Nat} {f : Int → Option Nat} {n s0 s1 : Nat} {x : W5} (h : RoundW W0 W mb sb xb f n s0 s1 x) (s : Nat) (h1 : mb ≠ sb) (h2 : sb ≠ xb) : RoundW W0 (W.setCell ⟨sb, 0, none⟩ (.int .u32 (s : Nat))) mb sb xb f n s s1 x :=
  ⟨h.but.setCell _ _ (.inl rfl), h.m.setCell _ _ h1, World.cell?_setCell_same' _ _ _ (by rw [h.c0]; rfl), cell_same0 (by simp) rfl rfl h.c1, by rw [World.frozen?_setCell]; exact h.f0, by rw [World.frozen?_setCell]; exact h.f1,
    (World.cell?_setCell_far _ _ _ _ h2).trans h.x0, (World.cell?_setCell_far _ _ _ _ h2).trans h.x1, (World.cell?_setCell_far _ _ _ _ h2).trans h.x4⟩
theorem RoundW.set1 {W0 W : World} {mb sb xb : Nat} {f : Int → Option Nat} {n s0 s1 : Nat} {x : W5} (h : RoundW W0 W mb sb xb f n s0 s1 x) (s : Nat) (h1 : mb ≠ sb) (h2 : sb ≠ xb) : RoundW W0 (W.setCell ⟨sb, 1, none⟩ (.int .u32 (s : Nat))) mb sb xb f n s0 s x :=
  ⟨h.but.setCell _ _ (.inl rfl), h.m.setCell _ _ h1, cell_same0 (by simp) rfl rfl h.c0, World.cell?_setCell_same' _ _ _ (by rw [h.c1]; rfl), by rw [World.frozen?_setCell]; exact h.f0, by rw [World.frozen?_setCell]; exact h.f1,
    (World.cell?_setCell_far _ _ _ _ h2).trans h.x0, (World.cell?_setCell_far _ _ _ _ h2).trans h.x1, (World.cell?_setCell_far _ _ _ _ h2).trans h.x4⟩
set_option maxRecDepth 100000 in
set_option maxHeartbeats 6400000 in
theorem speakers_walk (c : Cfg) (sv : Value) (a b : Int) (w : World) (ok : c.Ok) (hT : Tab w) (hsv : (Sh.slice wordSh).Holds w [sv]) (ha : (Lit.int .u64 a).wf = true) (hb : (Lit.int .u64 b).wf = true) :
    Calls Tryd.prog 7 #[.agg #[.int .i64 c.f, .int .i64 c.mb, .int .u64 c.dl, .int .u64 c.wd, .int .u64 c.ev, .int .u64 c.bt, .int .u64 c.ep, .int .u64 c.em, .int .u64 c.mn, .int .u64 c.ms], sv, .int .u64 a, .int .u64 b] w fun e w' => e = .returned (.bool true) ∧ Below w.heap.size w w' := by
  obtain ⟨sp, ws, cap, rfl, hlen, hscr⟩ := script_open hsv
  unfold maxLen at hlen
  have HT := Lib.hid hT
  have HS := Lib.hid hscr
  have wa_ := Lib.hid ha
  have wb_ := Lib.hid hb
  clear hsv hscr hT ha hb
  go_enter Tryd.func7, Tryd.ntmps7
  go_wp2_with fail
  refine (lmade_any c _ ok).mono ?_
  rintro e wa (⟨hb, gb, rfl, hlb, hg, hb_wa⟩ | ⟨hb, rfl, hb_wa⟩)
  · obtain ⟨⟨f1, f2⟩, _⟩ := Cfg.valid hb
    replace hb := Lib.hid hb
    have HG := Lib.hid hg
    have hc_wa := (bcell hb_wa).1
    have hf_wa := (bcell hb_wa).2
    have hz_wa_0 : w.heap.size < wa.heap.size := by have h_ := hb_wa.size; (try simp at h_); omega
    go_wp2_with fail
    refine (tnew_at gb c _ hg f1).mono ?_
    rintro e wb ⟨tb, mb, rfl, ht, hm, hmb, htb, hne, hb_wb⟩
    have hc_wb := (bcell hb_wb).1
    have hf_wb := (bcell hb_wb).2
    have hz_wb_0 : w.heap.size < wb.heap.size := by have h_ := hb_wb.size; (try simp at h_); omega
    have HTL := Lib.hid ht
    have HM := Lib.hid hm
    have tl := ht.lt
    have ml := hm.lt
    have gl := hg.lt
    clear ht hm hg hlb
    go_wp2
    refine wp_gen (fun W => Below w.heap.size w W ∧ TalAt W tb gb mb ∧ MapIs W mb (fun _ => none) 0 ∧ GrpAt W gb c (2 * c.f + 1) ∧ Tab W ∧ W.cell? ⟨w.heap.size, 0, none⟩ = some (.int .i64 c.f) ∧
      W.cell? ⟨wb.heap.size, 0, none⟩ = some (.int .u32 0) ∧ W.cell? ⟨wb.heap.size, 1, none⟩ = some (.int .u32 0) ∧ W.frozen? ⟨wb.heap.size, 0, none⟩ = false ∧ W.frozen? ⟨wb.heap.size, 1, none⟩ = false ∧
      W.cell? ⟨wb.heap.size + 1, 0, none⟩ = some (.int .u64 a) ∧ W.cell? ⟨wb.heap.size + 1, 1, none⟩ = some (.int .u64 b) ∧ W.heap.size = wb.heap.size + 1 + 1) ?_ ?_
    · exact ⟨(by repeat (first | with_reducible refine Below.drew ?_ | with_reducible refine below_drewN ?_ | with_reducible refine Below.alloc_ ?_ _ | with_reducible refine Below.setCell ?_ (by first | (simp; done) | (simp; omega)) _ | with_reducible exact Below.refl _ _ | with_reducible exact hb_wa | with_reducible refine Below.on ?_ hb_wa | with_reducible exact hb_wb | with_reducible refine Below.on ?_ hb_wb )), HTL.out.below tl (by repeat (first | with_reducible refine Below.drew ?_ | with_reducible refine below_drewN ?_ | with_reducible refine Below.alloc_ ?_ _ | with_reducible refine Below.setCell ?_ (by first | (simp; done) | (simp; omega)) _ | with_reducible exact Below.refl _ _ )), HM.out.below ml (by repeat (first | with_reducible refine Below.drew ?_ | with_reducible refine below_drewN ?_ | with_reducible refine Below.alloc_ ?_ _ | with_reducible refine Below.setCell ?_ (by first | (simp; done) | (simp; omega)) _ | with_reducible exact Below.refl _ _ )), HG.out.below gl (by repeat (first | with_reducible refine Below.drew ?_ | with_reducible refine below_drewN ?_ | with_reducible refine Below.alloc_ ?_ _ | with_reducible refine Below.setCell ?_ (by first | (simp; done) | (simp; omega)) _ | with_reducible exact Below.refl _ _ | with_reducible exact hb_wb | with_reducible refine Below.on ?_ hb_wb )), HT.out.below (Nat.le_refl _) (by repeat (first | with_reducible refine Below.drew ?_ | with_reducible refine below_drewN ?_ | with_reducible refine Below.alloc_ ?_ _ | with_reducible refine Below.setCell ?_ (by first | (simp; done) | (simp; omega)) _ | with_reducible exact Below.refl _ _ | with_reducible exact hb_wa | with_reducible refine Below.on ?_ hb_wa | with_reducible exact hb_wb | with_reducible refine Below.on ?_ hb_wb )), by go_simp, by go_simp, by go_simp, by go_simp, by go_simp, by go_simp, by go_simp, by simp⟩
    rintro W0 ⟨hB0, h1, h2, h3, h4, h5, h6, h7, h8, h9, h10, h11, h12⟩
    clear hc_wa hf_wa hc_wb hf_wb hb_wa hb_wb HTL HM HG ok
    replace h1 := Lib.hid h1
    replace h2 := Lib.hid h2
    replace h3 := Lib.hid h3
    replace h4 := Lib.hid h4
    have h12a : wb.heap.size + 2 ≤ W0.heap.size := by omega
    have h12b : W0.heap.size ≤ wb.heap.size + 2 := by omega
    replace h12 := Lib.hid h12
    replace hB0 := Lib.hid hB0
    go_wp2
    go_loopw [14] (fun i wr => ∃ k : Nat, i = .int .i64 k ∧ k ≤ ws.length ∧ k ≤ 60 ∧ ∃ f n s0 s1, SpkSt c a b f s0 s1 ∧ n ≤ k ∧ MapIs wr mb f n ∧ wr.cell? ⟨wb.heap.size, 0, none⟩ = some (.int .u32 (s0 : Nat)) ∧ wr.cell? ⟨wb.heap.size, 1, none⟩ = some (.int .u32 (s1 : Nat)) ∧
      wr.frozen? ⟨wb.heap.size, 0, none⟩ = false ∧ wr.frozen? ⟨wb.heap.size, 1, none⟩ = false ∧ But2 W0 wr mb wb.heap.size) (fun i _ => 60 - (intOf i).toNat)
    case atStart => exact ⟨0, rfl, by omega, by omega, fun _ => none, 0, 0, 0, ⟨rfl, rfl, SubB.zero c, SubB.zero c⟩, by omega, h2.out, h6, h7, h8, h9, But2.refl _ _ _⟩
    case round =>
      obtain ⟨k, rfl, hk1, hk2, f, n, s0, s1, hst, hnk, hm, k0, k1, k2, k3, hbut⟩ := hrel
      have hsz := hbut.size
      replace hm := Lib.hid hm
      replace hst := Lib.hid hst
      replace hbut := Lib.hid hbut
      by_cases hlt : k < ws.length
      · by_cases h60 : k < 60
        · obtain ⟨b', o', rfl, e1, q0, q1, q2, q3, q4, v0, v1, v2, v3, v4⟩ := HS.out k hlt
          obtain ⟨x, hx⟩ : ∃ x, x = ws[k] := ⟨_, rfl⟩
          rw [← hx] at q0 q1 q2 q3 q4 v0 v1 v2 v3 v4
          have hcell : ∀ o v, w.cell? ⟨b', o, none⟩ = some v → wr.cell? ⟨b', o, none⟩ = some v := fun o v h => (hbut.out.cell (a := ⟨b', o, none⟩) (by simp; omega) (by simp; omega) (by simp; omega)).trans ((hB0.out.cell (p := ⟨b', o, none⟩) e1).trans h)
          replace q0 := hcell _ _ q0
          replace q1 := hcell _ _ q1
          replace q2 := hcell _ _ q2
          replace q3 := hcell _ _ q3
          replace q4 := hcell _ _ q4
          have kc : ∀ o v, o < 2 → W0.cell? ⟨wb.heap.size + 1, o, none⟩ = some v → wr.cell? ⟨wb.heap.size + 1, o, none⟩ = some v := fun o v _ h => (hbut.out.cell (a := ⟨wb.heap.size + 1, o, none⟩) (by simp; omega) (by simp; omega) (by simp)).trans h
          replace v0 := Lib.hid v0
          replace v1 := Lib.hid v1
          replace v4 := Lib.hid v4
          replace hx := Lib.hid hx
          clear hcell v2 v3
          obtain ⟨x0, xn, xbn, xbd, xnd⟩ := x
          simp only at q0 q1 q2 q3 q4
          --BEGIN ROUND
          by_cases hkd : x0 = 2
          · subst hkd
            have RW : Hid (RoundW W0 (wr.alloc (.cells #[.int .i64 2, .int .u64 xn, .int .u64 xbn, .int .i64 xbd, .int .i64 xnd] 69)) mb wb.heap.size wr.heap.size f n s0 s1 ⟨2, xn, xbn, xbd, xnd⟩) := Lib.hid
              ⟨hbut.out.alloc _, hm.out.below hm.out.lt (Below.alloc_ (Below.refl _ _) _), cell_alloc1 _ k0, cell_alloc1 _ k1, frozen_alloc1 _ k0 k2, frozen_alloc1 _ k1 k3, by simp, by simp, by simp⟩
            go_wp2_with fail
            refine (tdrop_at tb gb mb f n xn v1.out _ (h1.out.but RW.out.but (by omega) (by omega)) RW.out.m).mono ?_
            rintro e w2 ⟨⟨v, rfl⟩, hm2, hg2⟩
            have R2 := Lib.hid (RW.out.turned hg2 hm2 (by omega) (by omega))
            clear hm2 hg2 RW k0 k1 k2 k3 q0 q1 q2 q3 q4
            have y0 := R2.out.x0
            have y1 := R2.out.x1
            have y4 := R2.out.x4
            have c0 := R2.out.c0
            have c1 := R2.out.c1
            have g0 := R2.out.f0
            have g1 := R2.out.f1
            have kk0 : w2.cell? ⟨wb.heap.size + 1, 0, none⟩ = some (.int .u64 a) := (R2.out.but.cell (a := ⟨wb.heap.size + 1, 0, none⟩) (by simp; omega) (by simp; omega) (by simp)).trans h10
            have kk1 : w2.cell? ⟨wb.heap.size + 1, 1, none⟩ = some (.int .u64 b) := (R2.out.but.cell (a := ⟨wb.heap.size + 1, 1, none⟩) (by simp; omega) (by simp; omega) (by simp)).trans h11
            have sz_ : wr.heap.size < w2.heap.size := cell_lt R2.out.x0
            have sy_ : wb.heap.size + 1 < w2.heap.size := cell_lt kk0
            go_wp2
            refine wp_loop_rounds 3 ?_
            rw [rounds_succ]
            by_cases e0 : xn = a
            · have q0 : (xn == a) = true := beq_iff_eq.mpr e0
              replace e0 := Lib.hid e0
              go_wp2
              refine wp_region_below (by kernel_rfl) (by kernel_rfl) ?_
              repeat first | go_big_quiet_skip | (go_big_quiet_want; go_big_quiet_op; go_big_quiet_on) | (go_big_quiet_want; rename_i K hK; apply quiet_mk; (focus (intro w1 hw1; have hc1 := (bcell hw1).1; have hf1 := (bcell hw1).2; go_simp; first | done | rfl | (fail))); refine hK _ ?_; clear hK K; try simp only [Act.put, List.setIfInBounds_toArray, List.set_cons_zero, List.set_cons_succ])
              refine wpQuiet_nil ?_
              intro v1 hb_v1
              have hc_v1 := (bcell hb_v1).1
              have hf_v1 := (bcell hb_v1).2
              have Rv1 := Lib.hid (R2.out.below hb_v1)
              clear hc_v1 hf_v1 hb_v1
              clear y0 y1 y4 c0 c1 g0 g1 kk0 kk1 sz_ sy_
              have y0 := Rv1.out.x0
              have y1 := Rv1.out.x1
              have y4 := Rv1.out.x4
              have c0 := Rv1.out.c0
              have c1 := Rv1.out.c1
              have g0 := Rv1.out.f0
              have g1 := Rv1.out.f1
              have kk0 : v1.cell? ⟨wb.heap.size + 1, 0, none⟩ = some (.int .u64 a) := (Rv1.out.but.cell (a := ⟨wb.heap.size + 1, 0, none⟩) (by simp; omega) (by simp; omega) (by simp)).trans h10
              have kk1 : v1.cell? ⟨wb.heap.size + 1, 1, none⟩ = some (.int .u64 b) := (Rv1.out.but.cell (a := ⟨wb.heap.size + 1, 1, none⟩) (by simp; omega) (by simp; omega) (by simp)).trans h11
              have sz_ : wr.heap.size < v1.heap.size := cell_lt Rv1.out.x0
              have sy_ : wb.heap.size + 1 < v1.heap.size := cell_lt kk0
              go_wp2
              rw [rounds_succ]
              refine wp_gen (fun W => RoundW W0 W mb wb.heap.size wr.heap.size (updM f xn none) (delN f xn n) 0 s1 ⟨2, xn, xbn, xbd, xnd⟩) (Rv1.out.set0 0 (by omega) (by omega)) ?_
              intro v2 hv2
              have Rv2 := Lib.hid hv2
              clear hv2
              clear y0 y1 y4 c0 c1 g0 g1 kk0 kk1 sz_ sy_
              have y0 := Rv2.out.x0
              have y1 := Rv2.out.x1
              have y4 := Rv2.out.x4
              have c0 := Rv2.out.c0
              have c1 := Rv2.out.c1
              have g0 := Rv2.out.f0
              have g1 := Rv2.out.f1
              have kk0 : v2.cell? ⟨wb.heap.size + 1, 0, none⟩ = some (.int .u64 a) := (Rv2.out.but.cell (a := ⟨wb.heap.size + 1, 0, none⟩) (by simp; omega) (by simp; omega) (by simp)).trans h10
              have kk1 : v2.cell? ⟨wb.heap.size + 1, 1, none⟩ = some (.int .u64 b) := (Rv2.out.but.cell (a := ⟨wb.heap.size + 1, 1, none⟩) (by simp; omega) (by simp; omega) (by simp)).trans h11
              have sz_ : wr.heap.size < v2.heap.size := cell_lt Rv2.out.x0
              have sy_ : wb.heap.size + 1 < v2.heap.size := cell_lt kk0
              by_cases e1 : xn = b
              · have q1 : (xn == b) = true := beq_iff_eq.mpr e1
                replace e1 := Lib.hid e1
                go_wp2
                refine wp_region_below (by kernel_rfl) (by kernel_rfl) ?_
                repeat first | go_big_quiet_skip | (go_big_quiet_want; go_big_quiet_op; go_big_quiet_on) | (go_big_quiet_want; rename_i K hK; apply quiet_mk; (focus (intro w1 hw1; have hc1 := (bcell hw1).1; have hf1 := (bcell hw1).2; go_simp; first | done | rfl | (fail))); refine hK _ ?_; clear hK K; try simp only [Act.put, List.setIfInBounds_toArray, List.set_cons_zero, List.set_cons_succ])
                refine wpQuiet_nil ?_
                intro v3 hb_v3
                have hc_v3 := (bcell hb_v3).1
                have hf_v3 := (bcell hb_v3).2
                have Rv3 := Lib.hid (Rv2.out.below hb_v3)
                clear hc_v3 hf_v3 hb_v3
                clear y0 y1 y4 c0 c1 g0 g1 kk0 kk1 sz_ sy_
                have y0 := Rv3.out.x0
                have y1 := Rv3.out.x1
                have y4 := Rv3.out.x4
                have c0 := Rv3.out.c0
                have c1 := Rv3.out.c1
                have g0 := Rv3.out.f0
                have g1 := Rv3.out.f1
                have kk0 : v3.cell? ⟨wb.heap.size + 1, 0, none⟩ = some (.int .u64 a) := (Rv3.out.but.cell (a := ⟨wb.heap.size + 1, 0, none⟩) (by simp; omega) (by simp; omega) (by simp)).trans h10
                have kk1 : v3.cell? ⟨wb.heap.size + 1, 1, none⟩ = some (.int .u64 b) := (Rv3.out.but.cell (a := ⟨wb.heap.size + 1, 1, none⟩) (by simp; omega) (by simp; omega) (by simp)).trans h11
                have sz_ : wr.heap.size < v3.heap.size := cell_lt Rv3.out.x0
                have sy_ : wb.heap.size + 1 < v3.heap.size := cell_lt kk0
                go_wp2
                rw [rounds_succ]
                refine wp_gen (fun W => RoundW W0 W mb wb.heap.size wr.heap.size (updM f xn none) (delN f xn n) 0 0 ⟨2, xn, xbn, xbd, xnd⟩) (Rv3.out.set1 0 (by omega) (by omega)) ?_
                intro v4 hv4
                have Rv4 := Lib.hid hv4
                clear hv4
                clear y0 y1 y4 c0 c1 g0 g1 kk0 kk1 sz_ sy_
                have y0 := Rv4.out.x0
                have y1 := Rv4.out.x1
                have y4 := Rv4.out.x4
                have c0 := Rv4.out.c0
                have c1 := Rv4.out.c1
                have g0 := Rv4.out.f0
                have g1 := Rv4.out.f1
                have kk0 : v4.cell? ⟨wb.heap.size + 1, 0, none⟩ = some (.int .u64 a) := (Rv4.out.but.cell (a := ⟨wb.heap.size + 1, 0, none⟩) (by simp; omega) (by simp; omega) (by simp)).trans h10
                have kk1 : v4.cell? ⟨wb.heap.size + 1, 1, none⟩ = some (.int .u64 b) := (Rv4.out.but.cell (a := ⟨wb.heap.size + 1, 1, none⟩) (by simp; omega) (by simp; omega) (by simp)).trans h11
                have sz_ : wr.heap.size < v4.heap.size := cell_lt Rv4.out.x0
                have sy_ : wb.heap.size + 1 < v4.heap.size := cell_lt kk0
                go_wp2
                go_roundw
                case measure => simp [intOf]; omega
                case rel => exact ⟨k + 1, by go_num, by omega, by omega, (updM f xn none), (delN f xn n), 0, 0, (by obtain ⟨t1, t2, t3, t4⟩ := hst.out; exact ⟨(by rw [upd_hit e0.out]; rfl), (by rw [upd_hit e1.out]; rfl), SubB.zero c, SubB.zero c⟩), Nat.le_trans (delN_le f xn n) (by omega), Rv4.out.m, Rv4.out.c0, Rv4.out.c1, Rv4.out.f0, Rv4.out.f1, Rv4.out.but⟩
              · have q1 : (xn == b) = false := beq_eq_false_iff_ne.mpr e1
                replace e1 := Lib.hid e1
                go_wp2
                refine wp_region_below (by kernel_rfl) (by kernel_rfl) ?_
                repeat first | go_big_quiet_skip | (go_big_quiet_want; go_big_quiet_op; go_big_quiet_on) | (go_big_quiet_want; rename_i K hK; apply quiet_mk; (focus (intro w1 hw1; have hc1 := (bcell hw1).1; have hf1 := (bcell hw1).2; go_simp; first | done | rfl | (fail))); refine hK _ ?_; clear hK K; try simp only [Act.put, List.setIfInBounds_toArray, List.set_cons_zero, List.set_cons_succ])
                refine wpQuiet_nil ?_
                intro v5 hb_v5
                have hc_v5 := (bcell hb_v5).1
                have hf_v5 := (bcell hb_v5).2
                have Rv5 := Lib.hid (Rv2.out.below hb_v5)
                clear hc_v5 hf_v5 hb_v5
                clear y0 y1 y4 c0 c1 g0 g1 kk0 kk1 sz_ sy_
                have y0 := Rv5.out.x0
                have y1 := Rv5.out.x1
                have y4 := Rv5.out.x4
                have c0 := Rv5.out.c0
                have c1 := Rv5.out.c1
                have g0 := Rv5.out.f0
                have g1 := Rv5.out.f1
                have kk0 : v5.cell? ⟨wb.heap.size + 1, 0, none⟩ = some (.int .u64 a) := (Rv5.out.but.cell (a := ⟨wb.heap.size + 1, 0, none⟩) (by simp; omega) (by simp; omega) (by simp)).trans h10
                have kk1 : v5.cell? ⟨wb.heap.size + 1, 1, none⟩ = some (.int .u64 b) := (Rv5.out.but.cell (a := ⟨wb.heap.size + 1, 1, none⟩) (by simp; omega) (by simp; omega) (by simp)).trans h11
                have sz_ : wr.heap.size < v5.heap.size := cell_lt Rv5.out.x0
                have sy_ : wb.heap.size + 1 < v5.heap.size := cell_lt kk0
                go_wp2
                refine wp_region_below (by kernel_rfl) (by kernel_rfl) ?_
                repeat first | go_big_quiet_skip | (go_big_quiet_want; go_big_quiet_op; go_big_quiet_on) | (go_big_quiet_want; rename_i K hK; apply quiet_mk; (focus (intro w1 hw1; have hc1 := (bcell hw1).1; have hf1 := (bcell hw1).2; go_simp; first | done | rfl | (fail))); refine hK _ ?_; clear hK K; try simp only [Act.put, List.setIfInBounds_toArray, List.set_cons_zero, List.set_cons_succ])
                refine wpQuiet_nil ?_
                intro v6 hb_v6
                have hc_v6 := (bcell hb_v6).1
                have hf_v6 := (bcell hb_v6).2
                have Rv6 := Lib.hid (Rv5.out.below hb_v6)
                clear hc_v6 hf_v6 hb_v6
                clear y0 y1 y4 c0 c1 g0 g1 kk0 kk1 sz_ sy_
                have y0 := Rv6.out.x0
                have y1 := Rv6.out.x1
                have y4 := Rv6.out.x4
                have c0 := Rv6.out.c0
                have c1 := Rv6.out.c1
                have g0 := Rv6.out.f0
                have g1 := Rv6.out.f1
                have kk0 : v6.cell? ⟨wb.heap.size + 1, 0, none⟩ = some (.int .u64 a) := (Rv6.out.but.cell (a := ⟨wb.heap.size + 1, 0, none⟩) (by simp; omega) (by simp; omega) (by simp)).trans h10
                have kk1 : v6.cell? ⟨wb.heap.size + 1, 1, none⟩ = some (.int .u64 b) := (Rv6.out.but.cell (a := ⟨wb.heap.size + 1, 1, none⟩) (by simp; omega) (by simp; omega) (by simp)).trans h11
                have sz_ : wr.heap.size < v6.heap.size := cell_lt Rv6.out.x0
                have sy_ : wb.heap.size + 1 < v6.heap.size := cell_lt kk0
                go_wp2
                rw [rounds_succ]
                refine wp_gen (fun W => RoundW W0 W mb wb.heap.size wr.heap.size (updM f xn none) (delN f xn n) 0 s1 ⟨2, xn, xbn, xbd, xnd⟩) Rv6.out ?_
                intro v7 hv7
                have Rv7 := Lib.hid hv7
                clear hv7
                clear y0 y1 y4 c0 c1 g0 g1 kk0 kk1 sz_ sy_
                have y0 := Rv7.out.x0
                have y1 := Rv7.out.x1
                have y4 := Rv7.out.x4
                have c0 := Rv7.out.c0
                have c1 := Rv7.out.c1
                have g0 := Rv7.out.f0
                have g1 := Rv7.out.f1
                have kk0 : v7.cell? ⟨wb.heap.size + 1, 0, none⟩ = some (.int .u64 a) := (Rv7.out.but.cell (a := ⟨wb.heap.size + 1, 0, none⟩) (by simp; omega) (by simp; omega) (by simp)).trans h10
                have kk1 : v7.cell? ⟨wb.heap.size + 1, 1, none⟩ = some (.int .u64 b) := (Rv7.out.but.cell (a := ⟨wb.heap.size + 1, 1, none⟩) (by simp; omega) (by simp; omega) (by simp)).trans h11
                have sz_ : wr.heap.size < v7.heap.size := cell_lt Rv7.out.x0
                have sy_ : wb.heap.size + 1 < v7.heap.size := cell_lt kk0
                go_wp2
                go_roundw
                case measure => simp [intOf]; omega
                case rel => exact ⟨k + 1, by go_num, by omega, by omega, (updM f xn none), (delN f xn n), 0, s1, (by obtain ⟨t1, t2, t3, t4⟩ := hst.out; exact ⟨(by rw [upd_hit e0.out]; rfl), (by rw [upd_miss e1.out]; exact t2), SubB.zero c, t4⟩), Nat.le_trans (delN_le f xn n) (by omega), Rv7.out.m, Rv7.out.c0, Rv7.out.c1, Rv7.out.f0, Rv7.out.f1, Rv7.out.but⟩
            · have q0 : (xn == a) = false := beq_eq_false_iff_ne.mpr e0
              replace e0 := Lib.hid e0
              go_wp2
              refine wp_region_below (by kernel_rfl) (by kernel_rfl) ?_
              repeat first | go_big_quiet_skip | (go_big_quiet_want; go_big_quiet_op; go_big_quiet_on) | (go_big_quiet_want; rename_i K hK; apply quiet_mk; (focus (intro w1 hw1; have hc1 := (bcell hw1).1; have hf1 := (bcell hw1).2; go_simp; first | done | rfl | (fail))); refine hK _ ?_; clear hK K; try simp only [Act.put, List.setIfInBounds_toArray, List.set_cons_zero, List.set_cons_succ])
              refine wpQuiet_nil ?_
              intro v8 hb_v8
              have hc_v8 := (bcell hb_v8).1
              have hf_v8 := (bcell hb_v8).2
              have Rv8 := Lib.hid (R2.out.below hb_v8)
              clear hc_v8 hf_v8 hb_v8
              clear y0 y1 y4 c0 c1 g0 g1 kk0 kk1 sz_ sy_
              have y0 := Rv8.out.x0
              have y1 := Rv8.out.x1
              have y4 := Rv8.out.x4
              have c0 := Rv8.out.c0
              have c1 := Rv8.out.c1
              have g0 := Rv8.out.f0
              have g1 := Rv8.out.f1
              have kk0 : v8.cell? ⟨wb.heap.size + 1, 0, none⟩ = some (.int .u64 a) := (Rv8.out.but.cell (a := ⟨wb.heap.size + 1, 0, none⟩) (by simp; omega) (by simp; omega) (by simp)).trans h10
              have kk1 : v8.cell? ⟨wb.heap.size + 1, 1, none⟩ = some (.int .u64 b) := (Rv8.out.but.cell (a := ⟨wb.heap.size + 1, 1, none⟩) (by simp; omega) (by simp; omega) (by simp)).trans h11
              have sz_ : wr.heap.size < v8.heap.size := cell_lt Rv8.out.x0
              have sy_ : wb.heap.size + 1 < v8.heap.size := cell_lt kk0
              go_wp2
              refine wp_region_below (by kernel_rfl) (by kernel_rfl) ?_
              repeat first | go_big_quiet_skip | (go_big_quiet_want; go_big_quiet_op; go_big_quiet_on) | (go_big_quiet_want; rename_i K hK; apply quiet_mk; (focus (intro w1 hw1; have hc1 := (bcell hw1).1; have hf1 := (bcell hw1).2; go_simp; first | done | rfl | (fail))); refine hK _ ?_; clear hK K; try simp only [Act.put, List.setIfInBounds_toArray, List.set_cons_zero, List.set_cons_succ])
              refine wpQuiet_nil ?_
              intro v9 hb_v9
              have hc_v9 := (bcell hb_v9).1
              have hf_v9 := (bcell hb_v9).2
              have Rv9 := Lib.hid (Rv8.out.below hb_v9)
              clear hc_v9 hf_v9 hb_v9
              clear y0 y1 y4 c0 c1 g0 g1 kk0 kk1 sz_ sy_
              have y0 := Rv9.out.x0
              have y1 := Rv9.out.x1
              have y4 := Rv9.out.x4
              have c0 := Rv9.out.c0
              have c1 := Rv9.out.c1
              have g0 := Rv9.out.f0
              have g1 := Rv9.out.f1
              have kk0 : v9.cell? ⟨wb.heap.size + 1, 0, none⟩ = some (.int .u64 a) := (Rv9.out.but.cell (a := ⟨wb.heap.size + 1, 0, none⟩) (by simp; omega) (by simp; omega) (by simp)).trans h10
              have kk1 : v9.cell? ⟨wb.heap.size + 1, 1, none⟩ = some (.int .u64 b) := (Rv9.out.but.cell (a := ⟨wb.heap.size + 1, 1, none⟩) (by simp; omega) (by simp; omega) (by simp)).trans h11
              have sz_ : wr.heap.size < v9.heap.size := cell_lt Rv9.out.x0
              have sy_ : wb.heap.size + 1 < v9.heap.size := cell_lt kk0
              go_wp2
              rw [rounds_succ]
              refine wp_gen (fun W => RoundW W0 W mb wb.heap.size wr.heap.size (updM f xn none) (delN f xn n) s0 s1 ⟨2, xn, xbn, xbd, xnd⟩) Rv9.out ?_
              intro v10 hv10
              have Rv10 := Lib.hid hv10
              clear hv10
              clear y0 y1 y4 c0 c1 g0 g1 kk0 kk1 sz_ sy_
              have y0 := Rv10.out.x0
              have y1 := Rv10.out.x1
              have y4 := Rv10.out.x4
              have c0 := Rv10.out.c0
              have c1 := Rv10.out.c1
              have g0 := Rv10.out.f0
              have g1 := Rv10.out.f1
              have kk0 : v10.cell? ⟨wb.heap.size + 1, 0, none⟩ = some (.int .u64 a) := (Rv10.out.but.cell (a := ⟨wb.heap.size + 1, 0, none⟩) (by simp; omega) (by simp; omega) (by simp)).trans h10
              have kk1 : v10.cell? ⟨wb.heap.size + 1, 1, none⟩ = some (.int .u64 b) := (Rv10.out.but.cell (a := ⟨wb.heap.size + 1, 1, none⟩) (by simp; omega) (by simp; omega) (by simp)).trans h11
              have sz_ : wr.heap.size < v10.heap.size := cell_lt Rv10.out.x0
              have sy_ : wb.heap.size + 1 < v10.heap.size := cell_lt kk0
              by_cases e1 : xn = b
              · have q1 : (xn == b) = true := beq_iff_eq.mpr e1
                replace e1 := Lib.hid e1
                go_wp2
                refine wp_region_below (by kernel_rfl) (by kernel_rfl) ?_
                repeat first | go_big_quiet_skip | (go_big_quiet_want; go_big_quiet_op; go_big_quiet_on) | (go_big_quiet_want; rename_i K hK; apply quiet_mk; (focus (intro w1 hw1; have hc1 := (bcell hw1).1; have hf1 := (bcell hw1).2; go_simp; first | done | rfl | (fail))); refine hK _ ?_; clear hK K; try simp only [Act.put, List.setIfInBounds_toArray, List.set_cons_zero, List.set_cons_succ])
                refine wpQuiet_nil ?_
                intro v11 hb_v11
                have hc_v11 := (bcell hb_v11).1
                have hf_v11 := (bcell hb_v11).2
                have Rv11 := Lib.hid (Rv10.out.below hb_v11)
                clear hc_v11 hf_v11 hb_v11
                clear y0 y1 y4 c0 c1 g0 g1 kk0 kk1 sz_ sy_
                have y0 := Rv11.out.x0
                have y1 := Rv11.out.x1
                have y4 := Rv11.out.x4
                have c0 := Rv11.out.c0
                have c1 := Rv11.out.c1
                have g0 := Rv11.out.f0
                have g1 := Rv11.out.f1
                have kk0 : v11.cell? ⟨wb.heap.size + 1, 0, none⟩ = some (.int .u64 a) := (Rv11.out.but.cell (a := ⟨wb.heap.size + 1, 0, none⟩) (by simp; omega) (by simp; omega) (by simp)).trans h10
                have kk1 : v11.cell? ⟨wb.heap.size + 1, 1, none⟩ = some (.int .u64 b) := (Rv11.out.but.cell (a := ⟨wb.heap.size + 1, 1, none⟩) (by simp; omega) (by simp; omega) (by simp)).trans h11
                have sz_ : wr.heap.size < v11.heap.size := cell_lt Rv11.out.x0
                have sy_ : wb.heap.size + 1 < v11.heap.size := cell_lt kk0
                go_wp2
                rw [rounds_succ]
                refine wp_gen (fun W => RoundW W0 W mb wb.heap.size wr.heap.size (updM f xn none) (delN f xn n) s0 0 ⟨2, xn, xbn, xbd, xnd⟩) (Rv11.out.set1 0 (by omega) (by omega)) ?_
                intro v12 hv12
                have Rv12 := Lib.hid hv12
                clear hv12
                clear y0 y1 y4 c0 c1 g0 g1 kk0 kk1 sz_ sy_
                have y0 := Rv12.out.x0
                have y1 := Rv12.out.x1
                have y4 := Rv12.out.x4
                have c0 := Rv12.out.c0
                have c1 := Rv12.out.c1
                have g0 := Rv12.out.f0
                have g1 := Rv12.out.f1
                have kk0 : v12.cell? ⟨wb.heap.size + 1, 0, none⟩ = some (.int .u64 a) := (Rv12.out.but.cell (a := ⟨wb.heap.size + 1, 0, none⟩) (by simp; omega) (by simp; omega) (by simp)).trans h10
                have kk1 : v12.cell? ⟨wb.heap.size + 1, 1, none⟩ = some (.int .u64 b) := (Rv12.out.but.cell (a := ⟨wb.heap.size + 1, 1, none⟩) (by simp; omega) (by simp; omega) (by simp)).trans h11
                have sz_ : wr.heap.size < v12.heap.size := cell_lt Rv12.out.x0
                have sy_ : wb.heap.size + 1 < v12.heap.size := cell_lt kk0
                go_wp2
                go_roundw
                case measure => simp [intOf]; omega
                case rel => exact ⟨k + 1, by go_num, by omega, by omega, (updM f xn none), (delN f xn n), s0, 0, (by obtain ⟨t1, t2, t3, t4⟩ := hst.out; exact ⟨(by rw [upd_miss e0.out]; exact t1), (by rw [upd_hit e1.out]; rfl), t3, SubB.zero c⟩), Nat.le_trans (delN_le f xn n) (by omega), Rv12.out.m, Rv12.out.c0, Rv12.out.c1, Rv12.out.f0, Rv12.out.f1, Rv12.out.but⟩
              · have q1 : (xn == b) = false := beq_eq_false_iff_ne.mpr e1
                replace e1 := Lib.hid e1
                go_wp2
                refine wp_region_below (by kernel_rfl) (by kernel_rfl) ?_
                repeat first | go_big_quiet_skip | (go_big_quiet_want; go_big_quiet_op; go_big_quiet_on) | (go_big_quiet_want; rename_i K hK; apply quiet_mk; (focus (intro w1 hw1; have hc1 := (bcell hw1).1; have hf1 := (bcell hw1).2; go_simp; first | done | rfl | (fail))); refine hK _ ?_; clear hK K; try simp only [Act.put, List.setIfInBounds_toArray, List.set_cons_zero, List.set_cons_succ])
                refine wpQuiet_nil ?_
                intro v13 hb_v13
                have hc_v13 := (bcell hb_v13).1
                have hf_v13 := (bcell hb_v13).2
                have Rv13 := Lib.hid (Rv10.out.below hb_v13)
                clear hc_v13 hf_v13 hb_v13
                clear y0 y1 y4 c0 c1 g0 g1 kk0 kk1 sz_ sy_
                have y0 := Rv13.out.x0
                have y1 := Rv13.out.x1
                have y4 := Rv13.out.x4
                have c0 := Rv13.out.c0
                have c1 := Rv13.out.c1
                have g0 := Rv13.out.f0
                have g1 := Rv13.out.f1
                have kk0 : v13.cell? ⟨wb.heap.size + 1, 0, none⟩ = some (.int .u64 a) := (Rv13.out.but.cell (a := ⟨wb.heap.size + 1, 0, none⟩) (by simp; omega) (by simp; omega) (by simp)).trans h10
                have kk1 : v13.cell? ⟨wb.heap.size + 1, 1, none⟩ = some (.int .u64 b) := (Rv13.out.but.cell (a := ⟨wb.heap.size + 1, 1, none⟩) (by simp; omega) (by simp; omega) (by simp)).trans h11
                have sz_ : wr.heap.size < v13.heap.size := cell_lt Rv13.out.x0
                have sy_ : wb.heap.size + 1 < v13.heap.size := cell_lt kk0
                go_wp2
                refine wp_region_below (by kernel_rfl) (by kernel_rfl) ?_
                repeat first | go_big_quiet_skip | (go_big_quiet_want; go_big_quiet_op; go_big_quiet_on) | (go_big_quiet_want; rename_i K hK; apply quiet_mk; (focus (intro w1 hw1; have hc1 := (bcell hw1).1; have hf1 := (bcell hw1).2; go_simp; first | done | rfl | (fail))); refine hK _ ?_; clear hK K; try simp only [Act.put, List.setIfInBounds_toArray, List.set_cons_zero, List.set_cons_succ])
                refine wpQuiet_nil ?_
                intro v14 hb_v14
                have hc_v14 := (bcell hb_v14).1
                have hf_v14 := (bcell hb_v14).2
                have Rv14 := Lib.hid (Rv13.out.below hb_v14)
                clear hc_v14 hf_v14 hb_v14
                clear y0 y1 y4 c0 c1 g0 g1 kk0 kk1 sz_ sy_
                have y0 := Rv14.out.x0
                have y1 := Rv14.out.x1
                have y4 := Rv14.out.x4
                have c0 := Rv14.out.c0
                have c1 := Rv14.out.c1
                have g0 := Rv14.out.f0
                have g1 := Rv14.out.f1
                have kk0 : v14.cell? ⟨wb.heap.size + 1, 0, none⟩ = some (.int .u64 a) := (Rv14.out.but.cell (a := ⟨wb.heap.size + 1, 0, none⟩) (by simp; omega) (by simp; omega) (by simp)).trans h10
                have kk1 : v14.cell? ⟨wb.heap.size + 1, 1, none⟩ = some (.int .u64 b) := (Rv14.out.but.cell (a := ⟨wb.heap.size + 1, 1, none⟩) (by simp; omega) (by simp; omega) (by simp)).trans h11
                have sz_ : wr.heap.size < v14.heap.size := cell_lt Rv14.out.x0
                have sy_ : wb.heap.size + 1 < v14.heap.size := cell_lt kk0
                go_wp2
                rw [rounds_succ]
                refine wp_gen (fun W => RoundW W0 W mb wb.heap.size wr.heap.size (updM f xn none) (delN f xn n) s0 s1 ⟨2, xn, xbn, xbd, xnd⟩) Rv14.out ?_
                intro v15 hv15
                have Rv15 := Lib.hid hv15
                clear hv15
                clear y0 y1 y4 c0 c1 g0 g1 kk0 kk1 sz_ sy_
                have y0 := Rv15.out.x0
                have y1 := Rv15.out.x1
                have y4 := Rv15.out.x4
                have c0 := Rv15.out.c0
                have c1 := Rv15.out.c1
                have g0 := Rv15.out.f0
                have g1 := Rv15.out.f1
                have kk0 : v15.cell? ⟨wb.heap.size + 1, 0, none⟩ = some (.int .u64 a) := (Rv15.out.but.cell (a := ⟨wb.heap.size + 1, 0, none⟩) (by simp; omega) (by simp; omega) (by simp)).trans h10
                have kk1 : v15.cell? ⟨wb.heap.size + 1, 1, none⟩ = some (.int .u64 b) := (Rv15.out.but.cell (a := ⟨wb.heap.size + 1, 1, none⟩) (by simp; omega) (by simp; omega) (by simp)).trans h11
                have sz_ : wr.heap.size < v15.heap.size := cell_lt Rv15.out.x0
                have sy_ : wb.heap.size + 1 < v15.heap.size := cell_lt kk0
                go_wp2
                go_roundw
                case measure => simp [intOf]; omega
                case rel => exact ⟨k + 1, by go_num, by omega, by omega, (updM f xn none), (delN f xn n), s0, s1, (by obtain ⟨t1, t2, t3, t4⟩ := hst.out; exact ⟨(by rw [upd_miss e0.out]; exact t1), (by rw [upd_miss e1.out]; exact t2), t3, t4⟩), Nat.le_trans (delN_le f xn n) (by omega), Rv15.out.m, Rv15.out.c0, Rv15.out.c1, Rv15.out.f0, Rv15.out.f1, Rv15.out.but⟩
          · have hkd' : (x0 == 2) = false := beq_eq_false_iff_ne.mpr hkd
            by_cases hk2_ : x0 < 2
            · by_cases hnode : 0 ≤ xnd ∧ xnd < 2 * c.f + 1
              · have hnd : decide (0 ≤ xnd ∧ xnd < 2 * c.f + 1) = true := decide_eq_true hnode
                have RW : Hid (RoundW W0 (wr.alloc (.cells #[.int .i64 x0, .int .u64 xn, .int .u64 xbn, .int .i64 xbd, .int .i64 xnd] 69)) mb wb.heap.size wr.heap.size f n s0 s1 ⟨x0, xn, xbn, xbd, xnd⟩) := Lib.hid
                  ⟨hbut.out.alloc _, hm.out.below hm.out.lt (Below.alloc_ (Below.refl _ _) _), cell_alloc1 _ k0, cell_alloc1 _ k1, frozen_alloc1 _ k0 k2, frozen_alloc1 _ k1 k3, by simp, by simp, by simp⟩
                go_wp2_with fail
                refine (tspeak_ok tb gb mb c f n xn xnd v1.out _ (h1.out.but RW.out.but (by omega) (by omega)) RW.out.m (h3.out.but RW.out.but (by omega) (by omega)) f1 hnode (fun _ => by omega) (h4.out.but RW.out.but (by omega) (by omega)) (by omega) (by omega) (by unfold maxLen; omega)).mono ?_
                rintro e w2 ⟨rfl, hm2, hg2⟩
                have R2 := Lib.hid (RW.out.turned hg2 hm2 (by omega) (by omega))
                clear hm2 hg2 RW k0 k1 k2 k3 q0 q1 q2 q3 q4
                have y0 := R2.out.x0
                have y1 := R2.out.x1
                have y4 := R2.out.x4
                have c0 := R2.out.c0
                have c1 := R2.out.c1
                have g0 := R2.out.f0
                have g1 := R2.out.f1
                have kk0 : w2.cell? ⟨wb.heap.size + 1, 0, none⟩ = some (.int .u64 a) := (R2.out.but.cell (a := ⟨wb.heap.size + 1, 0, none⟩) (by simp; omega) (by simp; omega) (by simp)).trans h10
                have kk1 : w2.cell? ⟨wb.heap.size + 1, 1, none⟩ = some (.int .u64 b) := (R2.out.but.cell (a := ⟨wb.heap.size + 1, 1, none⟩) (by simp; omega) (by simp; omega) (by simp)).trans h11
                have sz_ : wr.heap.size < w2.heap.size := cell_lt R2.out.x0
                have sy_ : wb.heap.size + 1 < w2.heap.size := cell_lt kk0
                have LT0 := hst.out.2.2.1.1
                have LT1 := hst.out.2.2.2.1
                go_wp2
                refine wp_loop_rounds 3 ?_
                rw [rounds_succ]
                by_cases e0 : xn = a
                · have q0 : (xn == a) = true := beq_iff_eq.mpr e0
                  replace e0 := Lib.hid e0
                  go_wp2
                  refine wp_region_below (by kernel_rfl) (by kernel_rfl) ?_
                  repeat first | go_big_quiet_skip | (go_big_quiet_want; go_big_quiet_op; go_big_quiet_on) | (go_big_quiet_want; rename_i K hK; apply quiet_mk; (focus (intro w1 hw1; have hc1 := (bcell hw1).1; have hf1 := (bcell hw1).2; go_simp; first | done | rfl | (fail))); refine hK _ ?_; clear hK K; try simp only [Act.put, List.setIfInBounds_toArray, List.set_cons_zero, List.set_cons_succ])
                  refine wpQuiet_nil ?_
                  intro v34 hb_v34
                  have hc_v34 := (bcell hb_v34).1
                  have hf_v34 := (bcell hb_v34).2
                  have Rv34 := Lib.hid (R2.out.below hb_v34)
                  clear hc_v34 hf_v34 hb_v34
                  clear y0 y1 y4 c0 c1 g0 g1 kk0 kk1 sz_ sy_
                  have y0 := Rv34.out.x0
                  have y1 := Rv34.out.x1
                  have y4 := Rv34.out.x4
                  have c0 := Rv34.out.c0
                  have c1 := Rv34.out.c1
                  have g0 := Rv34.out.f0
                  have g1 := Rv34.out.f1
                  have kk0 : v34.cell? ⟨wb.heap.size + 1, 0, none⟩ = some (.int .u64 a) := (Rv34.out.but.cell (a := ⟨wb.heap.size + 1, 0, none⟩) (by simp; omega) (by simp; omega) (by simp)).trans h10
                  have kk1 : v34.cell? ⟨wb.heap.size + 1, 1, none⟩ = some (.int .u64 b) := (Rv34.out.but.cell (a := ⟨wb.heap.size + 1, 1, none⟩) (by simp; omega) (by simp; omega) (by simp)).trans h11
                  have sz_ : wr.heap.size < v34.heap.size := cell_lt Rv34.out.x0
                  have sy_ : wb.heap.size + 1 < v34.heap.size := cell_lt kk0
                  go_wp2
                  refine wp_region_below (by kernel_rfl) (by kernel_rfl) ?_
                  repeat first | go_big_quiet_skip | (go_big_quiet_want; go_big_quiet_op; go_big_quiet_on) | (go_big_quiet_want; rename_i K hK; apply quiet_mk; (focus (intro w1 hw1; have hc1 := (bcell hw1).1; have hf1 := (bcell hw1).2; go_simp; first | done | rfl | (first | (go_at_call 25; (refine (sameB (node_at gb (2 * c.f + 1) xnd _ ((h3.out.but Rv34.out.but (by omega) (by omega)).below (cell_lt (h3.out.but Rv34.out.but (by omega) (by omega)).f) hw1).nodes (by omega))).mono ?_); rintro e w2 ⟨rfl, hb2⟩; exact ⟨rfl, (hw1.trans (hb2.mono hw1.size)).mono (by simp)⟩)))); refine hK _ ?_; clear hK K; try simp only [Act.put, List.setIfInBounds_toArray, List.set_cons_zero, List.set_cons_succ])
                  refine wpQuiet_nil ?_
                  intro v35 hb_v35
                  have hc_v35 := (bcell hb_v35).1
                  have hf_v35 := (bcell hb_v35).2
                  have Rv35 := Lib.hid (Rv34.out.below hb_v35)
                  clear hc_v35 hf_v35 hb_v35
                  clear y0 y1 y4 c0 c1 g0 g1 kk0 kk1 sz_ sy_
                  have y0 := Rv35.out.x0
                  have y1 := Rv35.out.x1
                  have y4 := Rv35.out.x4
                  have c0 := Rv35.out.c0
                  have c1 := Rv35.out.c1
                  have g0 := Rv35.out.f0
                  have g1 := Rv35.out.f1
                  have kk0 : v35.cell? ⟨wb.heap.size + 1, 0, none⟩ = some (.int .u64 a) := (Rv35.out.but.cell (a := ⟨wb.heap.size + 1, 0, none⟩) (by simp; omega) (by simp; omega) (by simp)).trans h10
                  have kk1 : v35.cell? ⟨wb.heap.size + 1, 1, none⟩ = some (.int .u64 b) := (Rv35.out.but.cell (a := ⟨wb.heap.size + 1, 1, none⟩) (by simp; omega) (by simp; omega) (by simp)).trans h11
                  have sz_ : wr.heap.size < v35.heap.size := cell_lt Rv35.out.x0
                  have sy_ : wb.heap.size + 1 < v35.heap.size := cell_lt kk0
                  go_wp2
                  refine wp_tail 8 (by kernel_rfl) (by kernel_rfl) ?_
                  rintro v36 hv36
                  have Rv36 : Hid (RoundW W0 v36 mb wb.heap.size wr.heap.size (updM f xn (some (withB ((f xn).getD 0) xnd))) (putN f xn n) s0 s1 ⟨x0, xn, xbn, xbd, xnd⟩) := Lib.hid (by rw [hv36]; exact Rv35.out.drew)
                  clear hv36
                  clear y0 y1 y4 c0 c1 g0 g1 kk0 kk1 sz_ sy_
                  have y0 := Rv36.out.x0
                  have y1 := Rv36.out.x1
                  have y4 := Rv36.out.x4
                  have c0 := Rv36.out.c0
                  have c1 := Rv36.out.c1
                  have g0 := Rv36.out.f0
                  have g1 := Rv36.out.f1
                  have kk0 : v36.cell? ⟨wb.heap.size + 1, 0, none⟩ = some (.int .u64 a) := (Rv36.out.but.cell (a := ⟨wb.heap.size + 1, 0, none⟩) (by simp; omega) (by simp; omega) (by simp)).trans h10
                  have kk1 : v36.cell? ⟨wb.heap.size + 1, 1, none⟩ = some (.int .u64 b) := (Rv36.out.but.cell (a := ⟨wb.heap.size + 1, 1, none⟩) (by simp; omega) (by simp; omega) (by simp)).trans h11
                  have sz_ : wr.heap.size < v36.heap.size := cell_lt Rv36.out.x0
                  have sy_ : wb.heap.size + 1 < v36.heap.size := cell_lt kk0
                  simp only [List.take_succ_cons, List.take_zero, List.drop_succ_cons, List.drop_zero]
                  repeat still_step
                  refine wpStill_step (fun K hK => ?_)
                  go_simp
                  refine ⟨_, (with_any s0 xnd v36 LT0).mono (fun e w1 h => ⟨h.1, h.2.symm⟩), hK _ ?_⟩
                  clear hK K
                  repeat still_step
                  refine wpStill_nil ?_
                  go_wp2
                  rw [rounds_succ]
                  refine wp_gen (fun W => RoundW W0 W mb wb.heap.size wr.heap.size (updM f xn (some (withB ((f xn).getD 0) xnd))) (putN f xn n) (withB s0 xnd) s1 ⟨x0, xn, xbn, xbd, xnd⟩) (Rv36.out.set0 (withB s0 xnd) (by omega) (by omega)) ?_
                  intro v37 hv37
                  have Rv37 := Lib.hid hv37
                  clear hv37
                  clear y0 y1 y4 c0 c1 g0 g1 kk0 kk1 sz_ sy_
                  have y0 := Rv37.out.x0
                  have y1 := Rv37.out.x1
                  have y4 := Rv37.out.x4
                  have c0 := Rv37.out.c0
                  have c1 := Rv37.out.c1
                  have g0 := Rv37.out.f0
                  have g1 := Rv37.out.f1
                  have kk0 : v37.cell? ⟨wb.heap.size + 1, 0, none⟩ = some (.int .u64 a) := (Rv37.out.but.cell (a := ⟨wb.heap.size + 1, 0, none⟩) (by simp; omega) (by simp; omega) (by simp)).trans h10
                  have kk1 : v37.cell? ⟨wb.heap.size + 1, 1, none⟩ = some (.int .u64 b) := (Rv37.out.but.cell (a := ⟨wb.heap.size + 1, 1, none⟩) (by simp; omega) (by simp; omega) (by simp)).trans h11
                  have sz_ : wr.heap.size < v37.heap.size := cell_lt Rv37.out.x0
                  have sy_ : wb.heap.size + 1 < v37.heap.size := cell_lt kk0
                  by_cases e1 : xn = b
                  · have q1 : (xn == b) = true := beq_iff_eq.mpr e1
                    replace e1 := Lib.hid e1
                    go_wp2
                    refine wp_region_below (by kernel_rfl) (by kernel_rfl) ?_
                    repeat first | go_big_quiet_skip | (go_big_quiet_want; go_big_quiet_op; go_big_quiet_on) | (go_big_quiet_want; rename_i K hK; apply quiet_mk; (focus (intro w1 hw1; have hc1 := (bcell hw1).1; have hf1 := (bcell hw1).2; go_simp; first | done | rfl | (fail))); refine hK _ ?_; clear hK K; try simp only [Act.put, List.setIfInBounds_toArray, List.set_cons_zero, List.set_cons_succ])
                    refine wpQuiet_nil ?_
                    intro v38 hb_v38
                    have hc_v38 := (bcell hb_v38).1
                    have hf_v38 := (bcell hb_v38).2
                    have Rv38 := Lib.hid (Rv37.out.below hb_v38)
                    clear hc_v38 hf_v38 hb_v38
                    clear y0 y1 y4 c0 c1 g0 g1 kk0 kk1 sz_ sy_
                    have y0 := Rv38.out.x0
                    have y1 := Rv38.out.x1
                    have y4 := Rv38.out.x4
                    have c0 := Rv38.out.c0
                    have c1 := Rv38.out.c1
                    have g0 := Rv38.out.f0
                    have g1 := Rv38.out.f1
                    have kk0 : v38.cell? ⟨wb.heap.size + 1, 0, none⟩ = some (.int .u64 a) := (Rv38.out.but.cell (a := ⟨wb.heap.size + 1, 0, none⟩) (by simp; omega) (by simp; omega) (by simp)).trans h10
                    have kk1 : v38.cell? ⟨wb.heap.size + 1, 1, none⟩ = some (.int .u64 b) := (Rv38.out.but.cell (a := ⟨wb.heap.size + 1, 1, none⟩) (by simp; omega) (by simp; omega) (by simp)).trans h11
                    have sz_ : wr.heap.size < v38.heap.size := cell_lt Rv38.out.x0
                    have sy_ : wb.heap.size + 1 < v38.heap.size := cell_lt kk0
                    go_wp2
                    refine wp_region_below (by kernel_rfl) (by kernel_rfl) ?_
                    repeat first | go_big_quiet_skip | (go_big_quiet_want; go_big_quiet_op; go_big_quiet_on) | (go_big_quiet_want; rename_i K hK; apply quiet_mk; (focus (intro w1 hw1; have hc1 := (bcell hw1).1; have hf1 := (bcell hw1).2; go_simp; first | done | rfl | (first | (go_at_call 25; (refine (sameB (node_at gb (2 * c.f + 1) xnd _ ((h3.out.but Rv38.out.but (by omega) (by omega)).below (cell_lt (h3.out.but Rv38.out.but (by omega) (by omega)).f) hw1).nodes (by omega))).mono ?_); rintro e w2 ⟨rfl, hb2⟩; exact ⟨rfl, (hw1.trans (hb2.mono hw1.size)).mono (by simp)⟩)))); refine hK _ ?_; clear hK K; try simp only [Act.put, List.setIfInBounds_toArray, List.set_cons_zero, List.set_cons_succ])
                    refine wpQuiet_nil ?_
                    intro v39 hb_v39
                    have hc_v39 := (bcell hb_v39).1
                    have hf_v39 := (bcell hb_v39).2
                    have Rv39 := Lib.hid (Rv38.out.below hb_v39)
                    clear hc_v39 hf_v39 hb_v39
                    clear y0 y1 y4 c0 c1 g0 g1 kk0 kk1 sz_ sy_
                    have y0 := Rv39.out.x0
                    have y1 := Rv39.out.x1
                    have y4 := Rv39.out.x4
                    have c0 := Rv39.out.c0
                    have c1 := Rv39.out.c1
                    have g0 := Rv39.out.f0
                    have g1 := Rv39.out.f1
                    have kk0 : v39.cell? ⟨wb.heap.size + 1, 0, none⟩ = some (.int .u64 a) := (Rv39.out.but.cell (a := ⟨wb.heap.size + 1, 0, none⟩) (by simp; omega) (by simp; omega) (by simp)).trans h10
                    have kk1 : v39.cell? ⟨wb.heap.size + 1, 1, none⟩ = some (.int .u64 b) := (Rv39.out.but.cell (a := ⟨wb.heap.size + 1, 1, none⟩) (by simp; omega) (by simp; omega) (by simp)).trans h11
                    have sz_ : wr.heap.size < v39.heap.size := cell_lt Rv39.out.x0
                    have sy_ : wb.heap.size + 1 < v39.heap.size := cell_lt kk0
                    go_wp2
                    refine wp_tail 8 (by kernel_rfl) (by kernel_rfl) ?_
                    rintro v40 hv40
                    have Rv40 : Hid (RoundW W0 v40 mb wb.heap.size wr.heap.size (updM f xn (some (withB ((f xn).getD 0) xnd))) (putN f xn n) (withB s0 xnd) s1 ⟨x0, xn, xbn, xbd, xnd⟩) := Lib.hid (by rw [hv40]; exact Rv39.out.drew)
                    clear hv40
                    clear y0 y1 y4 c0 c1 g0 g1 kk0 kk1 sz_ sy_
                    have y0 := Rv40.out.x0
                    have y1 := Rv40.out.x1
                    have y4 := Rv40.out.x4
                    have c0 := Rv40.out.c0
                    have c1 := Rv40.out.c1
                    have g0 := Rv40.out.f0
                    have g1 := Rv40.out.f1
                    have kk0 : v40.cell? ⟨wb.heap.size + 1, 0, none⟩ = some (.int .u64 a) := (Rv40.out.but.cell (a := ⟨wb.heap.size + 1, 0, none⟩) (by simp; omega) (by simp; omega) (by simp)).trans h10
                    have kk1 : v40.cell? ⟨wb.heap.size + 1, 1, none⟩ = some (.int .u64 b) := (Rv40.out.but.cell (a := ⟨wb.heap.size + 1, 1, none⟩) (by simp; omega) (by simp; omega) (by simp)).trans h11
                    have sz_ : wr.heap.size < v40.heap.size := cell_lt Rv40.out.x0
                    have sy_ : wb.heap.size + 1 < v40.heap.size := cell_lt kk0
                    simp only [List.take_succ_cons, List.take_zero, List.drop_succ_cons, List.drop_zero]
                    repeat still_step
                    refine wpStill_step (fun K hK => ?_)
                    go_simp
                    refine ⟨_, (with_any s1 xnd v40 LT1).mono (fun e w1 h => ⟨h.1, h.2.symm⟩), hK _ ?_⟩
                    clear hK K
                    repeat still_step
                    refine wpStill_nil ?_
                    go_wp2
                    rw [rounds_succ]
                    refine wp_gen (fun W => RoundW W0 W mb wb.heap.size wr.heap.size (updM f xn (some (withB ((f xn).getD 0) xnd))) (putN f xn n) (withB s0 xnd) (withB s1 xnd) ⟨x0, xn, xbn, xbd, xnd⟩) (Rv40.out.set1 (withB s1 xnd) (by omega) (by omega)) ?_
                    intro v41 hv41
                    have Rv41 := Lib.hid hv41
                    clear hv41
                    clear y0 y1 y4 c0 c1 g0 g1 kk0 kk1 sz_ sy_
                    have y0 := Rv41.out.x0
                    have y1 := Rv41.out.x1
                    have y4 := Rv41.out.x4
                    have c0 := Rv41.out.c0
                    have c1 := Rv41.out.c1
                    have g0 := Rv41.out.f0
                    have g1 := Rv41.out.f1
                    have kk0 : v41.cell? ⟨wb.heap.size + 1, 0, none⟩ = some (.int .u64 a) := (Rv41.out.but.cell (a := ⟨wb.heap.size + 1, 0, none⟩) (by simp; omega) (by simp; omega) (by simp)).trans h10
                    have kk1 : v41.cell? ⟨wb.heap.size + 1, 1, none⟩ = some (.int .u64 b) := (Rv41.out.but.cell (a := ⟨wb.heap.size + 1, 1, none⟩) (by simp; omega) (by simp; omega) (by simp)).trans h11
                    have sz_ : wr.heap.size < v41.heap.size := cell_lt Rv41.out.x0
                    have sy_ : wb.heap.size + 1 < v41.heap.size := cell_lt kk0
                    go_wp2
                    go_roundw
                    case measure => simp [intOf]; omega
                    case rel => exact ⟨k + 1, by go_num, by omega, by omega, (updM f xn (some (withB ((f xn).getD 0) xnd))), (putN f xn n), (withB s0 xnd), (withB s1 xnd), (by obtain ⟨t1, t2, t3, t4⟩ := hst.out; exact ⟨(by rw [upd_hit e0.out, Option.getD_some, e0.out, t1]), (by rw [upd_hit e1.out, Option.getD_some, e1.out, t2]), t3.with hnode, t4.with hnode⟩), Nat.le_trans (putN_le f xn n) (by omega), Rv41.out.m, Rv41.out.c0, Rv41.out.c1, Rv41.out.f0, Rv41.out.f1, Rv41.out.but⟩
                  · have q1 : (xn == b) = false := beq_eq_false_iff_ne.mpr e1
                    replace e1 := Lib.hid e1
                    go_wp2
                    refine wp_region_below (by kernel_rfl) (by kernel_rfl) ?_
                    repeat first | go_big_quiet_skip | (go_big_quiet_want; go_big_quiet_op; go_big_quiet_on) | (go_big_quiet_want; rename_i K hK; apply quiet_mk; (focus (intro w1 hw1; have hc1 := (bcell hw1).1; have hf1 := (bcell hw1).2; go_simp; first | done | rfl | (fail))); refine hK _ ?_; clear hK K; try simp only [Act.put, List.setIfInBounds_toArray, List.set_cons_zero, List.set_cons_succ])
                    refine wpQuiet_nil ?_
                    intro v42 hb_v42
                    have hc_v42 := (bcell hb_v42).1
                    have hf_v42 := (bcell hb_v42).2
                    have Rv42 := Lib.hid (Rv37.out.below hb_v42)
                    clear hc_v42 hf_v42 hb_v42
                    clear y0 y1 y4 c0 c1 g0 g1 kk0 kk1 sz_ sy_
                    have y0 := Rv42.out.x0
                    have y1 := Rv42.out.x1
                    have y4 := Rv42.out.x4
                    have c0 := Rv42.out.c0
                    have c1 := Rv42.out.c1
                    have g0 := Rv42.out.f0
                    have g1 := Rv42.out.f1
                    have kk0 : v42.cell? ⟨wb.heap.size + 1, 0, none⟩ = some (.int .u64 a) := (Rv42.out.but.cell (a := ⟨wb.heap.size + 1, 0, none⟩) (by simp; omega) (by simp; omega) (by simp)).trans h10
                    have kk1 : v42.cell? ⟨wb.heap.size + 1, 1, none⟩ = some (.int .u64 b) := (Rv42.out.but.cell (a := ⟨wb.heap.size + 1, 1, none⟩) (by simp; omega) (by simp; omega) (by simp)).trans h11
                    have sz_ : wr.heap.size < v42.heap.size := cell_lt Rv42.out.x0
                    have sy_ : wb.heap.size + 1 < v42.heap.size := cell_lt kk0
                    go_wp2
                    refine wp_region_below (by kernel_rfl) (by kernel_rfl) ?_
                    repeat first | go_big_quiet_skip | (go_big_quiet_want; go_big_quiet_op; go_big_quiet_on) | (go_big_quiet_want; rename_i K hK; apply quiet_mk; (focus (intro w1 hw1; have hc1 := (bcell hw1).1; have hf1 := (bcell hw1).2; go_simp; first | done | rfl | (fail))); refine hK _ ?_; clear hK K; try simp only [Act.put, List.setIfInBounds_toArray, List.set_cons_zero, List.set_cons_succ])
                    refine wpQuiet_nil ?_
                    intro v43 hb_v43
                    have hc_v43 := (bcell hb_v43).1
                    have hf_v43 := (bcell hb_v43).2
                    have Rv43 := Lib.hid (Rv42.out.below hb_v43)
                    clear hc_v43 hf_v43 hb_v43
                    clear y0 y1 y4 c0 c1 g0 g1 kk0 kk1 sz_ sy_
                    have y0 := Rv43.out.x0
                    have y1 := Rv43.out.x1
                    have y4 := Rv43.out.x4
                    have c0 := Rv43.out.c0
                    have c1 := Rv43.out.c1
                    have g0 := Rv43.out.f0
                    have g1 := Rv43.out.f1
                    have kk0 : v43.cell? ⟨wb.heap.size + 1, 0, none⟩ = some (.int .u64 a) := (Rv43.out.but.cell (a := ⟨wb.heap.size + 1, 0, none⟩) (by simp; omega) (by simp; omega) (by simp)).trans h10
                    have kk1 : v43.cell? ⟨wb.heap.size + 1, 1, none⟩ = some (.int .u64 b) := (Rv43.out.but.cell (a := ⟨wb.heap.size + 1, 1, none⟩) (by simp; omega) (by simp; omega) (by simp)).trans h11
                    have sz_ : wr.heap.size < v43.heap.size := cell_lt Rv43.out.x0
                    have sy_ : wb.heap.size + 1 < v43.heap.size := cell_lt kk0
                    go_wp2
                    rw [rounds_succ]
                    refine wp_gen (fun W => RoundW W0 W mb wb.heap.size wr.heap.size (updM f xn (some (withB ((f xn).getD 0) xnd))) (putN f xn n) (withB s0 xnd) s1 ⟨x0, xn, xbn, xbd, xnd⟩) Rv43.out ?_
                    intro v44 hv44
                    have Rv44 := Lib.hid hv44
                    clear hv44
                    clear y0 y1 y4 c0 c1 g0 g1 kk0 kk1 sz_ sy_
                    have y0 := Rv44.out.x0
                    have y1 := Rv44.out.x1
                    have y4 := Rv44.out.x4
                    have c0 := Rv44.out.c0
                    have c1 := Rv44.out.c1
                    have g0 := Rv44.out.f0
                    have g1 := Rv44.out.f1
                    have kk0 : v44.cell? ⟨wb.heap.size + 1, 0, none⟩ = some (.int .u64 a) := (Rv44.out.but.cell (a := ⟨wb.heap.size + 1, 0, none⟩) (by simp; omega) (by simp; omega) (by simp)).trans h10
                    have kk1 : v44.cell? ⟨wb.heap.size + 1, 1, none⟩ = some (.int .u64 b) := (Rv44.out.but.cell (a := ⟨wb.heap.size + 1, 1, none⟩) (by simp; omega) (by simp; omega) (by simp)).trans h11
                    have sz_ : wr.heap.size < v44.heap.size := cell_lt Rv44.out.x0
                    have sy_ : wb.heap.size + 1 < v44.heap.size := cell_lt kk0
                    go_wp2
                    go_roundw
                    case measure => simp [intOf]; omega
                    case rel => exact ⟨k + 1, by go_num, by omega, by omega, (updM f xn (some (withB ((f xn).getD 0) xnd))), (putN f xn n), (withB s0 xnd), s1, (by obtain ⟨t1, t2, t3, t4⟩ := hst.out; exact ⟨(by rw [upd_hit e0.out, Option.getD_some, e0.out, t1]), (by rw [upd_miss e1.out]; exact t2), t3.with hnode, t4⟩), Nat.le_trans (putN_le f xn n) (by omega), Rv44.out.m, Rv44.out.c0, Rv44.out.c1, Rv44.out.f0, Rv44.out.f1, Rv44.out.but⟩
                · have q0 : (xn == a) = false := beq_eq_false_iff_ne.mpr e0
                  replace e0 := Lib.hid e0
                  go_wp2
                  refine wp_region_below (by kernel_rfl) (by kernel_rfl) ?_
                  repeat first | go_big_quiet_skip | (go_big_quiet_want; go_big_quiet_op; go_big_quiet_on) | (go_big_quiet_want; rename_i K hK; apply quiet_mk; (focus (intro w1 hw1; have hc1 := (bcell hw1).1; have hf1 := (bcell hw1).2; go_simp; first | done | rfl | (fail))); refine hK _ ?_; clear hK K; try simp only [Act.put, List.setIfInBounds_toArray, List.set_cons_zero, List.set_cons_succ])
                  refine wpQuiet_nil ?_
                  intro v45 hb_v45
                  have hc_v45 := (bcell hb_v45).1
                  have hf_v45 := (bcell hb_v45).2
                  have Rv45 := Lib.hid (R2.out.below hb_v45)
                  clear hc_v45 hf_v45 hb_v45
                  clear y0 y1 y4 c0 c1 g0 g1 kk0 kk1 sz_ sy_
                  have y0 := Rv45.out.x0
                  have y1 := Rv45.out.x1
                  have y4 := Rv45.out.x4
                  have c0 := Rv45.out.c0
                  have c1 := Rv45.out.c1
                  have g0 := Rv45.out.f0
                  have g1 := Rv45.out.f1
                  have kk0 : v45.cell? ⟨wb.heap.size + 1, 0, none⟩ = some (.int .u64 a) := (Rv45.out.but.cell (a := ⟨wb.heap.size + 1, 0, none⟩) (by simp; omega) (by simp; omega) (by simp)).trans h10
                  have kk1 : v45.cell? ⟨wb.heap.size + 1, 1, none⟩ = some (.int .u64 b) := (Rv45.out.but.cell (a := ⟨wb.heap.size + 1, 1, none⟩) (by simp; omega) (by simp; omega) (by simp)).trans h11
                  have sz_ : wr.heap.size < v45.heap.size := cell_lt Rv45.out.x0
                  have sy_ : wb.heap.size + 1 < v45.heap.size := cell_lt kk0
                  go_wp2
                  refine wp_region_below (by kernel_rfl) (by kernel_rfl) ?_
                  repeat first | go_big_quiet_skip | (go_big_quiet_want; go_big_quiet_op; go_big_quiet_on) | (go_big_quiet_want; rename_i K hK; apply quiet_mk; (focus (intro w1 hw1; have hc1 := (bcell hw1).1; have hf1 := (bcell hw1).2; go_simp; first | done | rfl | (fail))); refine hK _ ?_; clear hK K; try simp only [Act.put, List.setIfInBounds_toArray, List.set_cons_zero, List.set_cons_succ])
                  refine wpQuiet_nil ?_
                  intro v46 hb_v46
                  have hc_v46 := (bcell hb_v46).1
                  have hf_v46 := (bcell hb_v46).2
                  have Rv46 := Lib.hid (Rv45.out.below hb_v46)
                  clear hc_v46 hf_v46 hb_v46
                  clear y0 y1 y4 c0 c1 g0 g1 kk0 kk1 sz_ sy_
                  have y0 := Rv46.out.x0
                  have y1 := Rv46.out.x1
                  have y4 := Rv46.out.x4
                  have c0 := Rv46.out.c0
                  have c1 := Rv46.out.c1
                  have g0 := Rv46.out.f0
                  have g1 := Rv46.out.f1
                  have kk0 : v46.cell? ⟨wb.heap.size + 1, 0, none⟩ = some (.int .u64 a) := (Rv46.out.but.cell (a := ⟨wb.heap.size + 1, 0, none⟩) (by simp; omega) (by simp; omega) (by simp)).trans h10
                  have kk1 : v46.cell? ⟨wb.heap.size + 1, 1, none⟩ = some (.int .u64 b) := (Rv46.out.but.cell (a := ⟨wb.heap.size + 1, 1, none⟩) (by simp; omega) (by simp; omega) (by simp)).trans h11
                  have sz_ : wr.heap.size < v46.heap.size := cell_lt Rv46.out.x0
                  have sy_ : wb.heap.size + 1 < v46.heap.size := cell_lt kk0
                  go_wp2
                  rw [rounds_succ]
                  refine wp_gen (fun W => RoundW W0 W mb wb.heap.size wr.heap.size (updM f xn (some (withB ((f xn).getD 0) xnd))) (putN f xn n) s0 s1 ⟨x0, xn, xbn, xbd, xnd⟩) Rv46.out ?_
                  intro v47 hv47
                  have Rv47 := Lib.hid hv47
                  clear hv47
                  clear y0 y1 y4 c0 c1 g0 g1 kk0 kk1 sz_ sy_
                  have y0 := Rv47.out.x0
                  have y1 := Rv47.out.x1
                  have y4 := Rv47.out.x4
                  have c0 := Rv47.out.c0
                  have c1 := Rv47.out.c1
                  have g0 := Rv47.out.f0
                  have g1 := Rv47.out.f1
                  have kk0 : v47.cell? ⟨wb.heap.size + 1, 0, none⟩ = some (.int .u64 a) := (Rv47.out.but.cell (a := ⟨wb.heap.size + 1, 0, none⟩) (by simp; omega) (by simp; omega) (by simp)).trans h10
                  have kk1 : v47.cell? ⟨wb.heap.size + 1, 1, none⟩ = some (.int .u64 b) := (Rv47.out.but.cell (a := ⟨wb.heap.size + 1, 1, none⟩) (by simp; omega) (by simp; omega) (by simp)).trans h11
                  have sz_ : wr.heap.size < v47.heap.size := cell_lt Rv47.out.x0
                  have sy_ : wb.heap.size + 1 < v47.heap.size := cell_lt kk0
                  by_cases e1 : xn = b
                  · have q1 : (xn == b) = true := beq_iff_eq.mpr e1
                    replace e1 := Lib.hid e1
                    go_wp2
                    refine wp_region_below (by kernel_rfl) (by kernel_rfl) ?_
                    repeat first | go_big_quiet_skip | (go_big_quiet_want; go_big_quiet_op; go_big_quiet_on) | (go_big_quiet_want; rename_i K hK; apply quiet_mk; (focus (intro w1 hw1; have hc1 := (bcell hw1).1; have hf1 := (bcell hw1).2; go_simp; first | done | rfl | (fail))); refine hK _ ?_; clear hK K; try simp only [Act.put, List.setIfInBounds_toArray, List.set_cons_zero, List.set_cons_succ])
                    refine wpQuiet_nil ?_
                    intro v48 hb_v48
                    have hc_v48 := (bcell hb_v48).1
                    have hf_v48 := (bcell hb_v48).2
                    have Rv48 := Lib.hid (Rv47.out.below hb_v48)
                    clear hc_v48 hf_v48 hb_v48
                    clear y0 y1 y4 c0 c1 g0 g1 kk0 kk1 sz_ sy_
                    have y0 := Rv48.out.x0
                    have y1 := Rv48.out.x1
                    have y4 := Rv48.out.x4
                    have c0 := Rv48.out.c0
                    have c1 := Rv48.out.c1
                    have g0 := Rv48.out.f0
                    have g1 := Rv48.out.f1
                    have kk0 : v48.cell? ⟨wb.heap.size + 1, 0, none⟩ = some (.int .u64 a) := (Rv48.out.but.cell (a := ⟨wb.heap.size + 1, 0, none⟩) (by simp; omega) (by simp; omega) (by simp)).trans h10
                    have kk1 : v48.cell? ⟨wb.heap.size + 1, 1, none⟩ = some (.int .u64 b) := (Rv48.out.but.cell (a := ⟨wb.heap.size + 1, 1, none⟩) (by simp; omega) (by simp; omega) (by simp)).trans h11
                    have sz_ : wr.heap.size < v48.heap.size := cell_lt Rv48.out.x0
                    have sy_ : wb.heap.size + 1 < v48.heap.size := cell_lt kk0
                    go_wp2
                    refine wp_region_below (by kernel_rfl) (by kernel_rfl) ?_
                    repeat first | go_big_quiet_skip | (go_big_quiet_want; go_big_quiet_op; go_big_quiet_on) | (go_big_quiet_want; rename_i K hK; apply quiet_mk; (focus (intro w1 hw1; have hc1 := (bcell hw1).1; have hf1 := (bcell hw1).2; go_simp; first | done | rfl | (first | (go_at_call 25; (refine (sameB (node_at gb (2 * c.f + 1) xnd _ ((h3.out.but Rv48.out.but (by omega) (by omega)).below (cell_lt (h3.out.but Rv48.out.but (by omega) (by omega)).f) hw1).nodes (by omega))).mono ?_); rintro e w2 ⟨rfl, hb2⟩; exact ⟨rfl, (hw1.trans (hb2.mono hw1.size)).mono (by simp)⟩)))); refine hK _ ?_; clear hK K; try simp only [Act.put, List.setIfInBounds_toArray, List.set_cons_zero, List.set_cons_succ])
                    refine wpQuiet_nil ?_
                    intro v49 hb_v49
                    have hc_v49 := (bcell hb_v49).1
                    have hf_v49 := (bcell hb_v49).2
                    have Rv49 := Lib.hid (Rv48.out.below hb_v49)
                    clear hc_v49 hf_v49 hb_v49
                    clear y0 y1 y4 c0 c1 g0 g1 kk0 kk1 sz_ sy_
                    have y0 := Rv49.out.x0
                    have y1 := Rv49.out.x1
                    have y4 := Rv49.out.x4
                    have c0 := Rv49.out.c0
                    have c1 := Rv49.out.c1
                    have g0 := Rv49.out.f0
                    have g1 := Rv49.out.f1
                    have kk0 : v49.cell? ⟨wb.heap.size + 1, 0, none⟩ = some (.int .u64 a) := (Rv49.out.but.cell (a := ⟨wb.heap.size + 1, 0, none⟩) (by simp; omega) (by simp; omega) (by simp)).trans h10
                    have kk1 : v49.cell? ⟨wb.heap.size + 1, 1, none⟩ = some (.int .u64 b) := (Rv49.out.but.cell (a := ⟨wb.heap.size + 1, 1, none⟩) (by simp; omega) (by simp; omega) (by simp)).trans h11
                    have sz_ : wr.heap.size < v49.heap.size := cell_lt Rv49.out.x0
                    have sy_ : wb.heap.size + 1 < v49.heap.size := cell_lt kk0
                    go_wp2
                    refine wp_tail 8 (by kernel_rfl) (by kernel_rfl) ?_
                    rintro v50 hv50
                    have Rv50 : Hid (RoundW W0 v50 mb wb.heap.size wr.heap.size (updM f xn (some (withB ((f xn).getD 0) xnd))) (putN f xn n) s0 s1 ⟨x0, xn, xbn, xbd, xnd⟩) := Lib.hid (by rw [hv50]; exact Rv49.out.drew)
                    clear hv50
                    clear y0 y1 y4 c0 c1 g0 g1 kk0 kk1 sz_ sy_
                    have y0 := Rv50.out.x0
                    have y1 := Rv50.out.x1
                    have y4 := Rv50.out.x4
                    have c0 := Rv50.out.c0
                    have c1 := Rv50.out.c1
                    have g0 := Rv50.out.f0
                    have g1 := Rv50.out.f1
                    have kk0 : v50.cell? ⟨wb.heap.size + 1, 0, none⟩ = some (.int .u64 a) := (Rv50.out.but.cell (a := ⟨wb.heap.size + 1, 0, none⟩) (by simp; omega) (by simp; omega) (by simp)).trans h10
                    have kk1 : v50.cell? ⟨wb.heap.size + 1, 1, none⟩ = some (.int .u64 b) := (Rv50.out.but.cell (a := ⟨wb.heap.size + 1, 1, none⟩) (by simp; omega) (by simp; omega) (by simp)).trans h11
                    have sz_ : wr.heap.size < v50.heap.size := cell_lt Rv50.out.x0
                    have sy_ : wb.heap.size + 1 < v50.heap.size := cell_lt kk0
                    simp only [List.take_succ_cons, List.take_zero, List.drop_succ_cons, List.drop_zero]
                    repeat still_step
                    refine wpStill_step (fun K hK => ?_)
                    go_simp
                    refine ⟨_, (with_any s1 xnd v50 LT1).mono (fun e w1 h => ⟨h.1, h.2.symm⟩), hK _ ?_⟩
                    clear hK K
                    repeat still_step
                    refine wpStill_nil ?_
                    go_wp2
                    rw [rounds_succ]
                    refine wp_gen (fun W => RoundW W0 W mb wb.heap.size wr.heap.size (updM f xn (some (withB ((f xn).getD 0) xnd))) (putN f xn n) s0 (withB s1 xnd) ⟨x0, xn, xbn, xbd, xnd⟩) (Rv50.out.set1 (withB s1 xnd) (by omega) (by omega)) ?_
                    intro v51 hv51
                    have Rv51 := Lib.hid hv51
                    clear hv51
                    clear y0 y1 y4 c0 c1 g0 g1 kk0 kk1 sz_ sy_
                    have y0 := Rv51.out.x0
                    have y1 := Rv51.out.x1
                    have y4 := Rv51.out.x4
                    have c0 := Rv51.out.c0
                    have c1 := Rv51.out.c1
                    have g0 := Rv51.out.f0
                    have g1 := Rv51.out.f1
                    have kk0 : v51.cell? ⟨wb.heap.size + 1, 0, none⟩ = some (.int .u64 a) := (Rv51.out.but.cell (a := ⟨wb.heap.size + 1, 0, none⟩) (by simp; omega) (by simp; omega) (by simp)).trans h10
                    have kk1 : v51.cell? ⟨wb.heap.size + 1, 1, none⟩ = some (.int .u64 b) := (Rv51.out.but.cell (a := ⟨wb.heap.size + 1, 1, none⟩) (by simp; omega) (by simp; omega) (by simp)).trans h11
                    have sz_ : wr.heap.size < v51.heap.size := cell_lt Rv51.out.x0
                    have sy_ : wb.heap.size + 1 < v51.heap.size := cell_lt kk0
                    go_wp2
                    go_roundw
                    case measure => simp [intOf]; omega
                    case rel => exact ⟨k + 1, by go_num, by omega, by omega, (updM f xn (some (withB ((f xn).getD 0) xnd))), (putN f xn n), s0, (withB s1 xnd), (by obtain ⟨t1, t2, t3, t4⟩ := hst.out; exact ⟨(by rw [upd_miss e0.out]; exact t1), (by rw [upd_hit e1.out, Option.getD_some, e1.out, t2]), t3, t4.with hnode⟩), Nat.le_trans (putN_le f xn n) (by omega), Rv51.out.m, Rv51.out.c0, Rv51.out.c1, Rv51.out.f0, Rv51.out.f1, Rv51.out.but⟩
                  · have q1 : (xn == b) = false := beq_eq_false_iff_ne.mpr e1
                    replace e1 := Lib.hid e1
                    go_wp2
                    refine wp_region_below (by kernel_rfl) (by kernel_rfl) ?_
                    repeat first | go_big_quiet_skip | (go_big_quiet_want; go_big_quiet_op; go_big_quiet_on) | (go_big_quiet_want; rename_i K hK; apply quiet_mk; (focus (intro w1 hw1; have hc1 := (bcell hw1).1; have hf1 := (bcell hw1).2; go_simp; first | done | rfl | (fail))); refine hK _ ?_; clear hK K; try simp only [Act.put, List.setIfInBounds_toArray, List.set_cons_zero, List.set_cons_succ])
                    refine wpQuiet_nil ?_
                    intro v52 hb_v52
                    have hc_v52 := (bcell hb_v52).1
                    have hf_v52 := (bcell hb_v52).2
                    have Rv52 := Lib.hid (Rv47.out.below hb_v52)
                    clear hc_v52 hf_v52 hb_v52
                    clear y0 y1 y4 c0 c1 g0 g1 kk0 kk1 sz_ sy_
                    have y0 := Rv52.out.x0
                    have y1 := Rv52.out.x1
                    have y4 := Rv52.out.x4
                    have c0 := Rv52.out.c0
                    have c1 := Rv52.out.c1
                    have g0 := Rv52.out.f0
                    have g1 := Rv52.out.f1
                    have kk0 : v52.cell? ⟨wb.heap.size + 1, 0, none⟩ = some (.int .u64 a) := (Rv52.out.but.cell (a := ⟨wb.heap.size + 1, 0, none⟩) (by simp; omega) (by simp; omega) (by simp)).trans h10
                    have kk1 : v52.cell? ⟨wb.heap.size + 1, 1, none⟩ = some (.int .u64 b) := (Rv52.out.but.cell (a := ⟨wb.heap.size + 1, 1, none⟩) (by simp; omega) (by simp; omega) (by simp)).trans h11
                    have sz_ : wr.heap.size < v52.heap.size := cell_lt Rv52.out.x0
                    have sy_ : wb.heap.size + 1 < v52.heap.size := cell_lt kk0
                    go_wp2
                    refine wp_region_below (by kernel_rfl) (by kernel_rfl) ?_
                    repeat first | go_big_quiet_skip | (go_big_quiet_want; go_big_quiet_op; go_big_quiet_on) | (go_big_quiet_want; rename_i K hK; apply quiet_mk; (focus (intro w1 hw1; have hc1 := (bcell hw1).1; have hf1 := (bcell hw1).2; go_simp; first | done | rfl | (fail))); refine hK _ ?_; clear hK K; try simp only [Act.put, List.setIfInBounds_toArray, List.set_cons_zero, List.set_cons_succ])
                    refine wpQuiet_nil ?_
                    intro v53 hb_v53
                    have hc_v53 := (bcell hb_v53).1
                    have hf_v53 := (bcell hb_v53).2
                    have Rv53 := Lib.hid (Rv52.out.below hb_v53)
                    clear hc_v53 hf_v53 hb_v53
                    clear y0 y1 y4 c0 c1 g0 g1 kk0 kk1 sz_ sy_
                    have y0 := Rv53.out.x0
                    have y1 := Rv53.out.x1
                    have y4 := Rv53.out.x4
                    have c0 := Rv53.out.c0
                    have c1 := Rv53.out.c1
                    have g0 := Rv53.out.f0
                    have g1 := Rv53.out.f1
                    have kk0 : v53.cell? ⟨wb.heap.size + 1, 0, none⟩ = some (.int .u64 a) := (Rv53.out.but.cell (a := ⟨wb.heap.size + 1, 0, none⟩) (by simp; omega) (by simp; omega) (by simp)).trans h10
                    have kk1 : v53.cell? ⟨wb.heap.size + 1, 1, none⟩ = some (.int .u64 b) := (Rv53.out.but.cell (a := ⟨wb.heap.size + 1, 1, none⟩) (by simp; omega) (by simp; omega) (by simp)).trans h11
                    have sz_ : wr.heap.size < v53.heap.size := cell_lt Rv53.out.x0
                    have sy_ : wb.heap.size + 1 < v53.heap.size := cell_lt kk0
                    go_wp2
                    rw [rounds_succ]
                    refine wp_gen (fun W => RoundW W0 W mb wb.heap.size wr.heap.size (updM f xn (some (withB ((f xn).getD 0) xnd))) (putN f xn n) s0 s1 ⟨x0, xn, xbn, xbd, xnd⟩) Rv53.out ?_
                    intro v54 hv54
                    have Rv54 := Lib.hid hv54
                    clear hv54
                    clear y0 y1 y4 c0 c1 g0 g1 kk0 kk1 sz_ sy_
                    have y0 := Rv54.out.x0
                    have y1 := Rv54.out.x1
                    have y4 := Rv54.out.x4
                    have c0 := Rv54.out.c0
                    have c1 := Rv54.out.c1
                    have g0 := Rv54.out.f0
                    have g1 := Rv54.out.f1
                    have kk0 : v54.cell? ⟨wb.heap.size + 1, 0, none⟩ = some (.int .u64 a) := (Rv54.out.but.cell (a := ⟨wb.heap.size + 1, 0, none⟩) (by simp; omega) (by simp; omega) (by simp)).trans h10
                    have kk1 : v54.cell? ⟨wb.heap.size + 1, 1, none⟩ = some (.int .u64 b) := (Rv54.out.but.cell (a := ⟨wb.heap.size + 1, 1, none⟩) (by simp; omega) (by simp; omega) (by simp)).trans h11
                    have sz_ : wr.heap.size < v54.heap.size := cell_lt Rv54.out.x0
                    have sy_ : wb.heap.size + 1 < v54.heap.size := cell_lt kk0
                    go_wp2
                    go_roundw
                    case measure => simp [intOf]; omega
                    case rel => exact ⟨k + 1, by go_num, by omega, by omega, (updM f xn (some (withB ((f xn).getD 0) xnd))), (putN f xn n), s0, s1, (by obtain ⟨t1, t2, t3, t4⟩ := hst.out; exact ⟨(by rw [upd_miss e0.out]; exact t1), (by rw [upd_miss e1.out]; exact t2), t3, t4⟩), Nat.le_trans (putN_le f xn n) (by omega), Rv54.out.m, Rv54.out.c0, Rv54.out.c1, Rv54.out.f0, Rv54.out.f1, Rv54.out.but⟩
              · have hnd : decide (0 ≤ xnd ∧ xnd < 2 * c.f + 1) = false := decide_eq_false hnode
                replace hnode := Lib.hid hnode
                have RW : Hid (RoundW W0 (wr.alloc (.cells #[.int .i64 x0, .int .u64 xn, .int .u64 xbn, .int .i64 xbd, .int .i64 xnd] 69)) mb wb.heap.size wr.heap.size f n s0 s1 ⟨x0, xn, xbn, xbd, xnd⟩) := Lib.hid
                  ⟨hbut.out.alloc _, hm.out.below hm.out.lt (Below.alloc_ (Below.refl _ _) _), cell_alloc1 _ k0, cell_alloc1 _ k1, frozen_alloc1 _ k0 k2, frozen_alloc1 _ k1 k3, by simp, by simp, by simp⟩
                go_wp2_with fail
                refine (tspeak_node tb gb mb c xn xnd _ (h1.out.but RW.out.but (by omega) (by omega)) (h3.out.but RW.out.but (by omega) (by omega)) f1 hnode.out).mono ?_
                rintro e w2 ⟨rfl, rfl⟩
                obtain ⟨w2, hw2⟩ : ∃ w2, w2 = wr.alloc (.cells #[.int .i64 x0, .int .u64 xn, .int .u64 xbn, .int .i64 xbd, .int .i64 xnd] 69)  := ⟨_, rfl⟩
                rw [← hw2] at RW ⊢
                have R2 := RW
                clear RW k0 k1 k2 k3 q0 q1 q2 q3 q4 hw2
                have y0 := R2.out.x0
                have y1 := R2.out.x1
                have y4 := R2.out.x4
                have c0 := R2.out.c0
                have c1 := R2.out.c1
                have g0 := R2.out.f0
                have g1 := R2.out.f1
                have kk0 : w2.cell? ⟨wb.heap.size + 1, 0, none⟩ = some (.int .u64 a) := (R2.out.but.cell (a := ⟨wb.heap.size + 1, 0, none⟩) (by simp; omega) (by simp; omega) (by simp)).trans h10
                have kk1 : w2.cell? ⟨wb.heap.size + 1, 1, none⟩ = some (.int .u64 b) := (R2.out.but.cell (a := ⟨wb.heap.size + 1, 1, none⟩) (by simp; omega) (by simp; omega) (by simp)).trans h11
                have sz_ : wr.heap.size < w2.heap.size := cell_lt R2.out.x0
                have sy_ : wb.heap.size + 1 < w2.heap.size := cell_lt kk0
                go_wp2
                refine wp_loop_rounds 3 ?_
                rw [rounds_succ]
                by_cases e0 : xn = a
                · have q0 : (xn == a) = true := beq_iff_eq.mpr e0
                  replace e0 := Lib.hid e0
                  go_wp2
                  refine wp_region_below (by kernel_rfl) (by kernel_rfl) ?_
                  repeat first | go_big_quiet_skip | (go_big_quiet_want; go_big_quiet_op; go_big_quiet_on) | (go_big_quiet_want; rename_i K hK; apply quiet_mk; (focus (intro w1 hw1; have hc1 := (bcell hw1).1; have hf1 := (bcell hw1).2; go_simp; first | done | rfl | (fail))); refine hK _ ?_; clear hK K; try simp only [Act.put, List.setIfInBounds_toArray, List.set_cons_zero, List.set_cons_succ])
                  refine wpQuiet_nil ?_
                  intro v55 hb_v55
                  have hc_v55 := (bcell hb_v55).1
                  have hf_v55 := (bcell hb_v55).2
                  have Rv55 := Lib.hid (R2.out.below hb_v55)
                  clear hc_v55 hf_v55 hb_v55
                  clear y0 y1 y4 c0 c1 g0 g1 kk0 kk1 sz_ sy_
                  have y0 := Rv55.out.x0
                  have y1 := Rv55.out.x1
                  have y4 := Rv55.out.x4
                  have c0 := Rv55.out.c0
                  have c1 := Rv55.out.c1
                  have g0 := Rv55.out.f0
                  have g1 := Rv55.out.f1
                  have kk0 : v55.cell? ⟨wb.heap.size + 1, 0, none⟩ = some (.int .u64 a) := (Rv55.out.but.cell (a := ⟨wb.heap.size + 1, 0, none⟩) (by simp; omega) (by simp; omega) (by simp)).trans h10
                  have kk1 : v55.cell? ⟨wb.heap.size + 1, 1, none⟩ = some (.int .u64 b) := (Rv55.out.but.cell (a := ⟨wb.heap.size + 1, 1, none⟩) (by simp; omega) (by simp; omega) (by simp)).trans h11
                  have sz_ : wr.heap.size < v55.heap.size := cell_lt Rv55.out.x0
                  have sy_ : wb.heap.size + 1 < v55.heap.size := cell_lt kk0
                  go_wp2
                  refine wp_region_below (by kernel_rfl) (by kernel_rfl) ?_
                  repeat first | go_big_quiet_skip | (go_big_quiet_want; go_big_quiet_op; go_big_quiet_on) | (go_big_quiet_want; rename_i K hK; apply quiet_mk; (focus (intro w1 hw1; have hc1 := (bcell hw1).1; have hf1 := (bcell hw1).2; go_simp; first | done | rfl | (first | (go_at_call 25; (refine (sameB (node_at gb (2 * c.f + 1) xnd _ ((h3.out.but Rv55.out.but (by omega) (by omega)).below (cell_lt (h3.out.but Rv55.out.but (by omega) (by omega)).f) hw1).nodes (by omega))).mono ?_); rintro e w2 ⟨rfl, hb2⟩; exact ⟨rfl, (hw1.trans (hb2.mono hw1.size)).mono (by simp)⟩)))); refine hK _ ?_; clear hK K; try simp only [Act.put, List.setIfInBounds_toArray, List.set_cons_zero, List.set_cons_succ])
                  refine wpQuiet_nil ?_
                  intro v56 hb_v56
                  have hc_v56 := (bcell hb_v56).1
                  have hf_v56 := (bcell hb_v56).2
                  have Rv56 := Lib.hid (Rv55.out.below hb_v56)
                  clear hc_v56 hf_v56 hb_v56
                  clear y0 y1 y4 c0 c1 g0 g1 kk0 kk1 sz_ sy_
                  have y0 := Rv56.out.x0
                  have y1 := Rv56.out.x1
                  have y4 := Rv56.out.x4
                  have c0 := Rv56.out.c0
                  have c1 := Rv56.out.c1
                  have g0 := Rv56.out.f0
                  have g1 := Rv56.out.f1
                  have kk0 : v56.cell? ⟨wb.heap.size + 1, 0, none⟩ = some (.int .u64 a) := (Rv56.out.but.cell (a := ⟨wb.heap.size + 1, 0, none⟩) (by simp; omega) (by simp; omega) (by simp)).trans h10
                  have kk1 : v56.cell? ⟨wb.heap.size + 1, 1, none⟩ = some (.int .u64 b) := (Rv56.out.but.cell (a := ⟨wb.heap.size + 1, 1, none⟩) (by simp; omega) (by simp; omega) (by simp)).trans h11
                  have sz_ : wr.heap.size < v56.heap.size := cell_lt Rv56.out.x0
                  have sy_ : wb.heap.size + 1 < v56.heap.size := cell_lt kk0
                  go_wp2
                  rw [rounds_succ]
                  refine wp_gen (fun W => RoundW W0 W mb wb.heap.size wr.heap.size f n s0 s1 ⟨x0, xn, xbn, xbd, xnd⟩) Rv56.out ?_
                  intro v57 hv57
                  have Rv57 := Lib.hid hv57
                  clear hv57
                  clear y0 y1 y4 c0 c1 g0 g1 kk0 kk1 sz_ sy_
                  have y0 := Rv57.out.x0
                  have y1 := Rv57.out.x1
                  have y4 := Rv57.out.x4
                  have c0 := Rv57.out.c0
                  have c1 := Rv57.out.c1
                  have g0 := Rv57.out.f0
                  have g1 := Rv57.out.f1
                  have kk0 : v57.cell? ⟨wb.heap.size + 1, 0, none⟩ = some (.int .u64 a) := (Rv57.out.but.cell (a := ⟨wb.heap.size + 1, 0, none⟩) (by simp; omega) (by simp; omega) (by simp)).trans h10
                  have kk1 : v57.cell? ⟨wb.heap.size + 1, 1, none⟩ = some (.int .u64 b) := (Rv57.out.but.cell (a := ⟨wb.heap.size + 1, 1, none⟩) (by simp; omega) (by simp; omega) (by simp)).trans h11
                  have sz_ : wr.heap.size < v57.heap.size := cell_lt Rv57.out.x0
                  have sy_ : wb.heap.size + 1 < v57.heap.size := cell_lt kk0
                  by_cases e1 : xn = b
                  · have q1 : (xn == b) = true := beq_iff_eq.mpr e1
                    replace e1 := Lib.hid e1
                    go_wp2
                    refine wp_region_below (by kernel_rfl) (by kernel_rfl) ?_
                    repeat first | go_big_quiet_skip | (go_big_quiet_want; go_big_quiet_op; go_big_quiet_on) | (go_big_quiet_want; rename_i K hK; apply quiet_mk; (focus (intro w1 hw1; have hc1 := (bcell hw1).1; have hf1 := (bcell hw1).2; go_simp; first | done | rfl | (fail))); refine hK _ ?_; clear hK K; try simp only [Act.put, List.setIfInBounds_toArray, List.set_cons_zero, List.set_cons_succ])
                    refine wpQuiet_nil ?_
                    intro v58 hb_v58
                    have hc_v58 := (bcell hb_v58).1
                    have hf_v58 := (bcell hb_v58).2
                    have Rv58 := Lib.hid (Rv57.out.below hb_v58)
                    clear hc_v58 hf_v58 hb_v58
                    clear y0 y1 y4 c0 c1 g0 g1 kk0 kk1 sz_ sy_
                    have y0 := Rv58.out.x0
                    have y1 := Rv58.out.x1
                    have y4 := Rv58.out.x4
                    have c0 := Rv58.out.c0
                    have c1 := Rv58.out.c1
                    have g0 := Rv58.out.f0
                    have g1 := Rv58.out.f1
                    have kk0 : v58.cell? ⟨wb.heap.size + 1, 0, none⟩ = some (.int .u64 a) := (Rv58.out.but.cell (a := ⟨wb.heap.size + 1, 0, none⟩) (by simp; omega) (by simp; omega) (by simp)).trans h10
                    have kk1 : v58.cell? ⟨wb.heap.size + 1, 1, none⟩ = some (.int .u64 b) := (Rv58.out.but.cell (a := ⟨wb.heap.size + 1, 1, none⟩) (by simp; omega) (by simp; omega) (by simp)).trans h11
                    have sz_ : wr.heap.size < v58.heap.size := cell_lt Rv58.out.x0
                    have sy_ : wb.heap.size + 1 < v58.heap.size := cell_lt kk0
                    go_wp2
                    refine wp_region_below (by kernel_rfl) (by kernel_rfl) ?_
                    repeat first | go_big_quiet_skip | (go_big_quiet_want; go_big_quiet_op; go_big_quiet_on) | (go_big_quiet_want; rename_i K hK; apply quiet_mk; (focus (intro w1 hw1; have hc1 := (bcell hw1).1; have hf1 := (bcell hw1).2; go_simp; first | done | rfl | (first | (go_at_call 25; (refine (sameB (node_at gb (2 * c.f + 1) xnd _ ((h3.out.but Rv58.out.but (by omega) (by omega)).below (cell_lt (h3.out.but Rv58.out.but (by omega) (by omega)).f) hw1).nodes (by omega))).mono ?_); rintro e w2 ⟨rfl, hb2⟩; exact ⟨rfl, (hw1.trans (hb2.mono hw1.size)).mono (by simp)⟩)))); refine hK _ ?_; clear hK K; try simp only [Act.put, List.setIfInBounds_toArray, List.set_cons_zero, List.set_cons_succ])
                    refine wpQuiet_nil ?_
                    intro v59 hb_v59
                    have hc_v59 := (bcell hb_v59).1
                    have hf_v59 := (bcell hb_v59).2
                    have Rv59 := Lib.hid (Rv58.out.below hb_v59)
                    clear hc_v59 hf_v59 hb_v59
                    clear y0 y1 y4 c0 c1 g0 g1 kk0 kk1 sz_ sy_
                    have y0 := Rv59.out.x0
                    have y1 := Rv59.out.x1
                    have y4 := Rv59.out.x4
                    have c0 := Rv59.out.c0
                    have c1 := Rv59.out.c1
                    have g0 := Rv59.out.f0
                    have g1 := Rv59.out.f1
                    have kk0 : v59.cell? ⟨wb.heap.size + 1, 0, none⟩ = some (.int .u64 a) := (Rv59.out.but.cell (a := ⟨wb.heap.size + 1, 0, none⟩) (by simp; omega) (by simp; omega) (by simp)).trans h10
                    have kk1 : v59.cell? ⟨wb.heap.size + 1, 1, none⟩ = some (.int .u64 b) := (Rv59.out.but.cell (a := ⟨wb.heap.size + 1, 1, none⟩) (by simp; omega) (by simp; omega) (by simp)).trans h11
                    have sz_ : wr.heap.size < v59.heap.size := cell_lt Rv59.out.x0
                    have sy_ : wb.heap.size + 1 < v59.heap.size := cell_lt kk0
                    go_wp2
                    rw [rounds_succ]
                    refine wp_gen (fun W => RoundW W0 W mb wb.heap.size wr.heap.size f n s0 s1 ⟨x0, xn, xbn, xbd, xnd⟩) Rv59.out ?_
                    intro v60 hv60
                    have Rv60 := Lib.hid hv60
                    clear hv60
                    clear y0 y1 y4 c0 c1 g0 g1 kk0 kk1 sz_ sy_
                    have y0 := Rv60.out.x0
                    have y1 := Rv60.out.x1
                    have y4 := Rv60.out.x4
                    have c0 := Rv60.out.c0
                    have c1 := Rv60.out.c1
                    have g0 := Rv60.out.f0
                    have g1 := Rv60.out.f1
                    have kk0 : v60.cell? ⟨wb.heap.size + 1, 0, none⟩ = some (.int .u64 a) := (Rv60.out.but.cell (a := ⟨wb.heap.size + 1, 0, none⟩) (by simp; omega) (by simp; omega) (by simp)).trans h10
                    have kk1 : v60.cell? ⟨wb.heap.size + 1, 1, none⟩ = some (.int .u64 b) := (Rv60.out.but.cell (a := ⟨wb.heap.size + 1, 1, none⟩) (by simp; omega) (by simp; omega) (by simp)).trans h11
                    have sz_ : wr.heap.size < v60.heap.size := cell_lt Rv60.out.x0
                    have sy_ : wb.heap.size + 1 < v60.heap.size := cell_lt kk0
                    go_wp2
                    go_roundw
                    case measure => simp [intOf]; omega
                    case rel => exact ⟨k + 1, by go_num, by omega, by omega, f, n, s0, s1, hst.out, by omega, Rv60.out.m, Rv60.out.c0, Rv60.out.c1, Rv60.out.f0, Rv60.out.f1, Rv60.out.but⟩
                  · have q1 : (xn == b) = false := beq_eq_false_iff_ne.mpr e1
                    replace e1 := Lib.hid e1
                    go_wp2
                    refine wp_region_below (by kernel_rfl) (by kernel_rfl) ?_
                    repeat first | go_big_quiet_skip | (go_big_quiet_want; go_big_quiet_op; go_big_quiet_on) | (go_big_quiet_want; rename_i K hK; apply quiet_mk; (focus (intro w1 hw1; have hc1 := (bcell hw1).1; have hf1 := (bcell hw1).2; go_simp; first | done | rfl | (fail))); refine hK _ ?_; clear hK K; try simp only [Act.put, List.setIfInBounds_toArray, List.set_cons_zero, List.set_cons_succ])
                    refine wpQuiet_nil ?_
                    intro v61 hb_v61
                    have hc_v61 := (bcell hb_v61).1
                    have hf_v61 := (bcell hb_v61).2
                    have Rv61 := Lib.hid (Rv57.out.below hb_v61)
                    clear hc_v61 hf_v61 hb_v61
                    clear y0 y1 y4 c0 c1 g0 g1 kk0 kk1 sz_ sy_
                    have y0 := Rv61.out.x0
                    have y1 := Rv61.out.x1
                    have y4 := Rv61.out.x4
                    have c0 := Rv61.out.c0
                    have c1 := Rv61.out.c1
                    have g0 := Rv61.out.f0
                    have g1 := Rv61.out.f1
                    have kk0 : v61.cell? ⟨wb.heap.size + 1, 0, none⟩ = some (.int .u64 a) := (Rv61.out.but.cell (a := ⟨wb.heap.size + 1, 0, none⟩) (by simp; omega) (by simp; omega) (by simp)).trans h10
                    have kk1 : v61.cell? ⟨wb.heap.size + 1, 1, none⟩ = some (.int .u64 b) := (Rv61.out.but.cell (a := ⟨wb.heap.size + 1, 1, none⟩) (by simp; omega) (by simp; omega) (by simp)).trans h11
                    have sz_ : wr.heap.size < v61.heap.size := cell_lt Rv61.out.x0
                    have sy_ : wb.heap.size + 1 < v61.heap.size := cell_lt kk0
                    go_wp2
                    refine wp_region_below (by kernel_rfl) (by kernel_rfl) ?_
                    repeat first | go_big_quiet_skip | (go_big_quiet_want; go_big_quiet_op; go_big_quiet_on) | (go_big_quiet_want; rename_i K hK; apply quiet_mk; (focus (intro w1 hw1; have hc1 := (bcell hw1).1; have hf1 := (bcell hw1).2; go_simp; first | done | rfl | (fail))); refine hK _ ?_; clear hK K; try simp only [Act.put, List.setIfInBounds_toArray, List.set_cons_zero, List.set_cons_succ])
                    refine wpQuiet_nil ?_
                    intro v62 hb_v62
                    have hc_v62 := (bcell hb_v62).1
                    have hf_v62 := (bcell hb_v62).2
                    have Rv62 := Lib.hid (Rv61.out.below hb_v62)
                    clear hc_v62 hf_v62 hb_v62
                    clear y0 y1 y4 c0 c1 g0 g1 kk0 kk1 sz_ sy_
                    have y0 := Rv62.out.x0
                    have y1 := Rv62.out.x1
                    have y4 := Rv62.out.x4
                    have c0 := Rv62.out.c0
                    have c1 := Rv62.out.c1
                    have g0 := Rv62.out.f0
                    have g1 := Rv62.out.f1
                    have kk0 : v62.cell? ⟨wb.heap.size + 1, 0, none⟩ = some (.int .u64 a) := (Rv62.out.but.cell (a := ⟨wb.heap.size + 1, 0, none⟩) (by simp; omega) (by simp; omega) (by simp)).trans h10
                    have kk1 : v62.cell? ⟨wb.heap.size + 1, 1, none⟩ = some (.int .u64 b) := (Rv62.out.but.cell (a := ⟨wb.heap.size + 1, 1, none⟩) (by simp; omega) (by simp; omega) (by simp)).trans h11
                    have sz_ : wr.heap.size < v62.heap.size := cell_lt Rv62.out.x0
                    have sy_ : wb.heap.size + 1 < v62.heap.size := cell_lt kk0
                    go_wp2
                    rw [rounds_succ]
                    refine wp_gen (fun W => RoundW W0 W mb wb.heap.size wr.heap.size f n s0 s1 ⟨x0, xn, xbn, xbd, xnd⟩) Rv62.out ?_
                    intro v63 hv63
                    have Rv63 := Lib.hid hv63
                    clear hv63
                    clear y0 y1 y4 c0 c1 g0 g1 kk0 kk1 sz_ sy_
                    have y0 := Rv63.out.x0
                    have y1 := Rv63.out.x1
                    have y4 := Rv63.out.x4
                    have c0 := Rv63.out.c0
                    have c1 := Rv63.out.c1
                    have g0 := Rv63.out.f0
                    have g1 := Rv63.out.f1
                    have kk0 : v63.cell? ⟨wb.heap.size + 1, 0, none⟩ = some (.int .u64 a) := (Rv63.out.but.cell (a := ⟨wb.heap.size + 1, 0, none⟩) (by simp; omega) (by simp; omega) (by simp)).trans h10
                    have kk1 : v63.cell? ⟨wb.heap.size + 1, 1, none⟩ = some (.int .u64 b) := (Rv63.out.but.cell (a := ⟨wb.heap.size + 1, 1, none⟩) (by simp; omega) (by simp; omega) (by simp)).trans h11
                    have sz_ : wr.heap.size < v63.heap.size := cell_lt Rv63.out.x0
                    have sy_ : wb.heap.size + 1 < v63.heap.size := cell_lt kk0
                    go_wp2
                    go_roundw
                    case measure => simp [intOf]; omega
                    case rel => exact ⟨k + 1, by go_num, by omega, by omega, f, n, s0, s1, hst.out, by omega, Rv63.out.m, Rv63.out.c0, Rv63.out.c1, Rv63.out.f0, Rv63.out.f1, Rv63.out.but⟩
                · have q0 : (xn == a) = false := beq_eq_false_iff_ne.mpr e0
                  replace e0 := Lib.hid e0
                  go_wp2
                  refine wp_region_below (by kernel_rfl) (by kernel_rfl) ?_
                  repeat first | go_big_quiet_skip | (go_big_quiet_want; go_big_quiet_op; go_big_quiet_on) | (go_big_quiet_want; rename_i K hK; apply quiet_mk; (focus (intro w1 hw1; have hc1 := (bcell hw1).1; have hf1 := (bcell hw1).2; go_simp; first | done | rfl | (fail))); refine hK _ ?_; clear hK K; try simp only [Act.put, List.setIfInBounds_toArray, List.set_cons_zero, List.set_cons_succ])
                  refine wpQuiet_nil ?_
                  intro v64 hb_v64
                  have hc_v64 := (bcell hb_v64).1
                  have hf_v64 := (bcell hb_v64).2
                  have Rv64 := Lib.hid (R2.out.below hb_v64)
                  clear hc_v64 hf_v64 hb_v64
                  clear y0 y1 y4 c0 c1 g0 g1 kk0 kk1 sz_ sy_
                  have y0 := Rv64.out.x0
                  have y1 := Rv64.out.x1
                  have y4 := Rv64.out.x4
                  have c0 := Rv64.out.c0
                  have c1 := Rv64.out.c1
                  have g0 := Rv64.out.f0
                  have g1 := Rv64.out.f1
                  have kk0 : v64.cell? ⟨wb.heap.size + 1, 0, none⟩ = some (.int .u64 a) := (Rv64.out.but.cell (a := ⟨wb.heap.size + 1, 0, none⟩) (by simp; omega) (by simp; omega) (by simp)).trans h10
                  have kk1 : v64.cell? ⟨wb.heap.size + 1, 1, none⟩ = some (.int .u64 b) := (Rv64.out.but.cell (a := ⟨wb.heap.size + 1, 1, none⟩) (by simp; omega) (by simp; omega) (by simp)).trans h11
                  have sz_ : wr.heap.size < v64.heap.size := cell_lt Rv64.out.x0
                  have sy_ : wb.heap.size + 1 < v64.heap.size := cell_lt kk0
                  go_wp2
                  refine wp_region_below (by kernel_rfl) (by kernel_rfl) ?_
                  repeat first | go_big_quiet_skip | (go_big_quiet_want; go_big_quiet_op; go_big_quiet_on) | (go_big_quiet_want; rename_i K hK; apply quiet_mk; (focus (intro w1 hw1; have hc1 := (bcell hw1).1; have hf1 := (bcell hw1).2; go_simp; first | done | rfl | (fail))); refine hK _ ?_; clear hK K; try simp only [Act.put, List.setIfInBounds_toArray, List.set_cons_zero, List.set_cons_succ])
                  refine wpQuiet_nil ?_
                  intro v65 hb_v65
                  have hc_v65 := (bcell hb_v65).1
                  have hf_v65 := (bcell hb_v65).2
                  have Rv65 := Lib.hid (Rv64.out.below hb_v65)
                  clear hc_v65 hf_v65 hb_v65
                  clear y0 y1 y4 c0 c1 g0 g1 kk0 kk1 sz_ sy_
                  have y0 := Rv65.out.x0
                  have y1 := Rv65.out.x1
                  have y4 := Rv65.out.x4
                  have c0 := Rv65.out.c0
                  have c1 := Rv65.out.c1
                  have g0 := Rv65.out.f0
                  have g1 := Rv65.out.f1
                  have kk0 : v65.cell? ⟨wb.heap.size + 1, 0, none⟩ = some (.int .u64 a) := (Rv65.out.but.cell (a := ⟨wb.heap.size + 1, 0, none⟩) (by simp; omega) (by simp; omega) (by simp)).trans h10
                  have kk1 : v65.cell? ⟨wb.heap.size + 1, 1, none⟩ = some (.int .u64 b) := (Rv65.out.but.cell (a := ⟨wb.heap.size + 1, 1, none⟩) (by simp; omega) (by simp; omega) (by simp)).trans h11
                  have sz_ : wr.heap.size < v65.heap.size := cell_lt Rv65.out.x0
                  have sy_ : wb.heap.size + 1 < v65.heap.size := cell_lt kk0
                  go_wp2
                  rw [rounds_succ]
                  refine wp_gen (fun W => RoundW W0 W mb wb.heap.size wr.heap.size f n s0 s1 ⟨x0, xn, xbn, xbd, xnd⟩) Rv65.out ?_
                  intro v66 hv66
                  have Rv66 := Lib.hid hv66
                  clear hv66
                  clear y0 y1 y4 c0 c1 g0 g1 kk0 kk1 sz_ sy_
                  have y0 := Rv66.out.x0
                  have y1 := Rv66.out.x1
                  have y4 := Rv66.out.x4
                  have c0 := Rv66.out.c0
                  have c1 := Rv66.out.c1
                  have g0 := Rv66.out.f0
                  have g1 := Rv66.out.f1
                  have kk0 : v66.cell? ⟨wb.heap.size + 1, 0, none⟩ = some (.int .u64 a) := (Rv66.out.but.cell (a := ⟨wb.heap.size + 1, 0, none⟩) (by simp; omega) (by simp; omega) (by simp)).trans h10
                  have kk1 : v66.cell? ⟨wb.heap.size + 1, 1, none⟩ = some (.int .u64 b) := (Rv66.out.but.cell (a := ⟨wb.heap.size + 1, 1, none⟩) (by simp; omega) (by simp; omega) (by simp)).trans h11
                  have sz_ : wr.heap.size < v66.heap.size := cell_lt Rv66.out.x0
                  have sy_ : wb.heap.size + 1 < v66.heap.size := cell_lt kk0
                  by_cases e1 : xn = b
                  · have q1 : (xn == b) = true := beq_iff_eq.mpr e1
                    replace e1 := Lib.hid e1
                    go_wp2
                    refine wp_region_below (by kernel_rfl) (by kernel_rfl) ?_
                    repeat first | go_big_quiet_skip | (go_big_quiet_want; go_big_quiet_op; go_big_quiet_on) | (go_big_quiet_want; rename_i K hK; apply quiet_mk; (focus (intro w1 hw1; have hc1 := (bcell hw1).1; have hf1 := (bcell hw1).2; go_simp; first | done | rfl | (fail))); refine hK _ ?_; clear hK K; try simp only [Act.put, List.setIfInBounds_toArray, List.set_cons_zero, List.set_cons_succ])
                    refine wpQuiet_nil ?_
                    intro v67 hb_v67
                    have hc_v67 := (bcell hb_v67).1
                    have hf_v67 := (bcell hb_v67).2
                    have Rv67 := Lib.hid (Rv66.out.below hb_v67)
                    clear hc_v67 hf_v67 hb_v67
                    clear y0 y1 y4 c0 c1 g0 g1 kk0 kk1 sz_ sy_
                    have y0 := Rv67.out.x0
                    have y1 := Rv67.out.x1
                    have y4 := Rv67.out.x4
                    have c0 := Rv67.out.c0
                    have c1 := Rv67.out.c1
                    have g0 := Rv67.out.f0
                    have g1 := Rv67.out.f1
                    have kk0 : v67.cell? ⟨wb.heap.size + 1, 0, none⟩ = some (.int .u64 a) := (Rv67.out.but.cell (a := ⟨wb.heap.size + 1, 0, none⟩) (by simp; omega) (by simp; omega) (by simp)).trans h10
                    have kk1 : v67.cell? ⟨wb.heap.size + 1, 1, none⟩ = some (.int .u64 b) := (Rv67.out.but.cell (a := ⟨wb.heap.size + 1, 1, none⟩) (by simp; omega) (by simp; omega) (by simp)).trans h11
                    have sz_ : wr.heap.size < v67.heap.size := cell_lt Rv67.out.x0
                    have sy_ : wb.heap.size + 1 < v67.heap.size := cell_lt kk0
                    go_wp2
                    refine wp_region_below (by kernel_rfl) (by kernel_rfl) ?_
                    repeat first | go_big_quiet_skip | (go_big_quiet_want; go_big_quiet_op; go_big_quiet_on) | (go_big_quiet_want; rename_i K hK; apply quiet_mk; (focus (intro w1 hw1; have hc1 := (bcell hw1).1; have hf1 := (bcell hw1).2; go_simp; first | done | rfl | (first | (go_at_call 25; (refine (sameB (node_at gb (2 * c.f + 1) xnd _ ((h3.out.but Rv67.out.but (by omega) (by omega)).below (cell_lt (h3.out.but Rv67.out.but (by omega) (by omega)).f) hw1).nodes (by omega))).mono ?_); rintro e w2 ⟨rfl, hb2⟩; exact ⟨rfl, (hw1.trans (hb2.mono hw1.size)).mono (by simp)⟩)))); refine hK _ ?_; clear hK K; try simp only [Act.put, List.setIfInBounds_toArray, List.set_cons_zero, List.set_cons_succ])
                    refine wpQuiet_nil ?_
                    intro v68 hb_v68
                    have hc_v68 := (bcell hb_v68).1
                    have hf_v68 := (bcell hb_v68).2
                    have Rv68 := Lib.hid (Rv67.out.below hb_v68)
                    clear hc_v68 hf_v68 hb_v68
                    clear y0 y1 y4 c0 c1 g0 g1 kk0 kk1 sz_ sy_
                    have y0 := Rv68.out.x0
                    have y1 := Rv68.out.x1
                    have y4 := Rv68.out.x4
                    have c0 := Rv68.out.c0
                    have c1 := Rv68.out.c1
                    have g0 := Rv68.out.f0
                    have g1 := Rv68.out.f1
                    have kk0 : v68.cell? ⟨wb.heap.size + 1, 0, none⟩ = some (.int .u64 a) := (Rv68.out.but.cell (a := ⟨wb.heap.size + 1, 0, none⟩) (by simp; omega) (by simp; omega) (by simp)).trans h10
                    have kk1 : v68.cell? ⟨wb.heap.size + 1, 1, none⟩ = some (.int .u64 b) := (Rv68.out.but.cell (a := ⟨wb.heap.size + 1, 1, none⟩) (by simp; omega) (by simp; omega) (by simp)).trans h11
                    have sz_ : wr.heap.size < v68.heap.size := cell_lt Rv68.out.x0
                    have sy_ : wb.heap.size + 1 < v68.heap.size := cell_lt kk0
                    go_wp2
                    rw [rounds_succ]
                    refine wp_gen (fun W => RoundW W0 W mb wb.heap.size wr.heap.size f n s0 s1 ⟨x0, xn, xbn, xbd, xnd⟩) Rv68.out ?_
                    intro v69 hv69
                    have Rv69 := Lib.hid hv69
                    clear hv69
                    clear y0 y1 y4 c0 c1 g0 g1 kk0 kk1 sz_ sy_
                    have y0 := Rv69.out.x0
                    have y1 := Rv69.out.x1
                    have y4 := Rv69.out.x4
                    have c0 := Rv69.out.c0
                    have c1 := Rv69.out.c1
                    have g0 := Rv69.out.f0
                    have g1 := Rv69.out.f1
                    have kk0 : v69.cell? ⟨wb.heap.size + 1, 0, none⟩ = some (.int .u64 a) := (Rv69.out.but.cell (a := ⟨wb.heap.size + 1, 0, none⟩) (by simp; omega) (by simp; omega) (by simp)).trans h10
                    have kk1 : v69.cell? ⟨wb.heap.size + 1, 1, none⟩ = some (.int .u64 b) := (Rv69.out.but.cell (a := ⟨wb.heap.size + 1, 1, none⟩) (by simp; omega) (by simp; omega) (by simp)).trans h11
                    have sz_ : wr.heap.size < v69.heap.size := cell_lt Rv69.out.x0
                    have sy_ : wb.heap.size + 1 < v69.heap.size := cell_lt kk0
                    go_wp2
                    go_roundw
                    case measure => simp [intOf]; omega
                    case rel => exact ⟨k + 1, by go_num, by omega, by omega, f, n, s0, s1, hst.out, by omega, Rv69.out.m, Rv69.out.c0, Rv69.out.c1, Rv69.out.f0, Rv69.out.f1, Rv69.out.but⟩
                  · have q1 : (xn == b) = false := beq_eq_false_iff_ne.mpr e1
                    replace e1 := Lib.hid e1
                    go_wp2
                    refine wp_region_below (by kernel_rfl) (by kernel_rfl) ?_
                    repeat first | go_big_quiet_skip | (go_big_quiet_want; go_big_quiet_op; go_big_quiet_on) | (go_big_quiet_want; rename_i K hK; apply quiet_mk; (focus (intro w1 hw1; have hc1 := (bcell hw1).1; have hf1 := (bcell hw1).2; go_simp; first | done | rfl | (fail))); refine hK _ ?_; clear hK K; try simp only [Act.put, List.setIfInBounds_toArray, List.set_cons_zero, List.set_cons_succ])
                    refine wpQuiet_nil ?_
                    intro v70 hb_v70
                    have hc_v70 := (bcell hb_v70).1
                    have hf_v70 := (bcell hb_v70).2
                    have Rv70 := Lib.hid (Rv66.out.below hb_v70)
                    clear hc_v70 hf_v70 hb_v70
                    clear y0 y1 y4 c0 c1 g0 g1 kk0 kk1 sz_ sy_
                    have y0 := Rv70.out.x0
                    have y1 := Rv70.out.x1
                    have y4 := Rv70.out.x4
                    have c0 := Rv70.out.c0
                    have c1 := Rv70.out.c1
                    have g0 := Rv70.out.f0
                    have g1 := Rv70.out.f1
                    have kk0 : v70.cell? ⟨wb.heap.size + 1, 0, none⟩ = some (.int .u64 a) := (Rv70.out.but.cell (a := ⟨wb.heap.size + 1, 0, none⟩) (by simp; omega) (by simp; omega) (by simp)).trans h10
                    have kk1 : v70.cell? ⟨wb.heap.size + 1, 1, none⟩ = some (.int .u64 b) := (Rv70.out.but.cell (a := ⟨wb.heap.size + 1, 1, none⟩) (by simp; omega) (by simp; omega) (by simp)).trans h11
                    have sz_ : wr.heap.size < v70.heap.size := cell_lt Rv70.out.x0
                    have sy_ : wb.heap.size + 1 < v70.heap.size := cell_lt kk0
                    go_wp2
                    refine wp_region_below (by kernel_rfl) (by kernel_rfl) ?_
                    repeat first | go_big_quiet_skip | (go_big_quiet_want; go_big_quiet_op; go_big_quiet_on) | (go_big_quiet_want; rename_i K hK; apply quiet_mk; (focus (intro w1 hw1; have hc1 := (bcell hw1).1; have hf1 := (bcell hw1).2; go_simp; first | done | rfl | (fail))); refine hK _ ?_; clear hK K; try simp only [Act.put, List.setIfInBounds_toArray, List.set_cons_zero, List.set_cons_succ])
                    refine wpQuiet_nil ?_
                    intro v71 hb_v71
                    have hc_v71 := (bcell hb_v71).1
                    have hf_v71 := (bcell hb_v71).2
                    have Rv71 := Lib.hid (Rv70.out.below hb_v71)
                    clear hc_v71 hf_v71 hb_v71
                    clear y0 y1 y4 c0 c1 g0 g1 kk0 kk1 sz_ sy_
                    have y0 := Rv71.out.x0
                    have y1 := Rv71.out.x1
                    have y4 := Rv71.out.x4
                    have c0 := Rv71.out.c0
                    have c1 := Rv71.out.c1
                    have g0 := Rv71.out.f0
                    have g1 := Rv71.out.f1
                    have kk0 : v71.cell? ⟨wb.heap.size + 1, 0, none⟩ = some (.int .u64 a) := (Rv71.out.but.cell (a := ⟨wb.heap.size + 1, 0, none⟩) (by simp; omega) (by simp; omega) (by simp)).trans h10
                    have kk1 : v71.cell? ⟨wb.heap.size + 1, 1, none⟩ = some (.int .u64 b) := (Rv71.out.but.cell (a := ⟨wb.heap.size + 1, 1, none⟩) (by simp; omega) (by simp; omega) (by simp)).trans h11
                    have sz_ : wr.heap.size < v71.heap.size := cell_lt Rv71.out.x0
                    have sy_ : wb.heap.size + 1 < v71.heap.size := cell_lt kk0
                    go_wp2
                    rw [rounds_succ]
                    refine wp_gen (fun W => RoundW W0 W mb wb.heap.size wr.heap.size f n s0 s1 ⟨x0, xn, xbn, xbd, xnd⟩) Rv71.out ?_
                    intro v72 hv72
                    have Rv72 := Lib.hid hv72
                    clear hv72
                    clear y0 y1 y4 c0 c1 g0 g1 kk0 kk1 sz_ sy_
                    have y0 := Rv72.out.x0
                    have y1 := Rv72.out.x1
                    have y4 := Rv72.out.x4
                    have c0 := Rv72.out.c0
                    have c1 := Rv72.out.c1
                    have g0 := Rv72.out.f0
                    have g1 := Rv72.out.f1
                    have kk0 : v72.cell? ⟨wb.heap.size + 1, 0, none⟩ = some (.int .u64 a) := (Rv72.out.but.cell (a := ⟨wb.heap.size + 1, 0, none⟩) (by simp; omega) (by simp; omega) (by simp)).trans h10
                    have kk1 : v72.cell? ⟨wb.heap.size + 1, 1, none⟩ = some (.int .u64 b) := (Rv72.out.but.cell (a := ⟨wb.heap.size + 1, 1, none⟩) (by simp; omega) (by simp; omega) (by simp)).trans h11
                    have sz_ : wr.heap.size < v72.heap.size := cell_lt Rv72.out.x0
                    have sy_ : wb.heap.size + 1 < v72.heap.size := cell_lt kk0
                    go_wp2
                    go_roundw
                    case measure => simp [intOf]; omega
                    case rel => exact ⟨k + 1, by go_num, by omega, by omega, f, n, s0, s1, hst.out, by omega, Rv72.out.m, Rv72.out.c0, Rv72.out.c1, Rv72.out.f0, Rv72.out.f1, Rv72.out.but⟩
            · have hk2f : decide (x0 < 2) = false := decide_eq_false hk2_
              have RW : Hid (RoundW W0 (wr.alloc (.cells #[.int .i64 x0, .int .u64 xn, .int .u64 xbn, .int .i64 xbd, .int .i64 xnd] 69)) mb wb.heap.size wr.heap.size f n s0 s1 ⟨x0, xn, xbn, xbd, xnd⟩) := Lib.hid
                ⟨hbut.out.alloc _, hm.out.below hm.out.lt (Below.alloc_ (Below.refl _ _) _), cell_alloc1 _ k0, cell_alloc1 _ k1, frozen_alloc1 _ k0 k2, frozen_alloc1 _ k1 k3, by simp, by simp, by simp⟩
              go_wp2
              refine wp_gen (fun W => RoundW W0 W mb wb.heap.size wr.heap.size f n s0 s1 ⟨x0, xn, xbn, xbd, xnd⟩) RW.out ?_
              intro w2 h2_
              have R2 := Lib.hid h2_
              clear h2_ RW k0 k1 k2 k3 q0 q1 q2 q3 q4
              have y0 := R2.out.x0
              have y1 := R2.out.x1
              have y4 := R2.out.x4
              have c0 := R2.out.c0
              have c1 := R2.out.c1
              have g0 := R2.out.f0
              have g1 := R2.out.f1
              have kk0 : w2.cell? ⟨wb.heap.size + 1, 0, none⟩ = some (.int .u64 a) := (R2.out.but.cell (a := ⟨wb.heap.size + 1, 0, none⟩) (by simp; omega) (by simp; omega) (by simp)).trans h10
              have kk1 : w2.cell? ⟨wb.heap.size + 1, 1, none⟩ = some (.int .u64 b) := (R2.out.but.cell (a := ⟨wb.heap.size + 1, 1, none⟩) (by simp; omega) (by simp; omega) (by simp)).trans h11
              have sz_ : wr.heap.size < w2.heap.size := cell_lt R2.out.x0
              have sy_ : wb.heap.size + 1 < w2.heap.size := cell_lt kk0
              go_wp2
              refine wp_loop_rounds 3 ?_
              rw [rounds_succ]
              by_cases e0 : xn = a
              · have q0 : (xn == a) = true := beq_iff_eq.mpr e0
                replace e0 := Lib.hid e0
                go_wp2
                refine wp_region_below (by kernel_rfl) (by kernel_rfl) ?_
                repeat first | go_big_quiet_skip | (go_big_quiet_want; go_big_quiet_op; go_big_quiet_on) | (go_big_quiet_want; rename_i K hK; apply quiet_mk; (focus (intro w1 hw1; have hc1 := (bcell hw1).1; have hf1 := (bcell hw1).2; go_simp; first | done | rfl | (fail))); refine hK _ ?_; clear hK K; try simp only [Act.put, List.setIfInBounds_toArray, List.set_cons_zero, List.set_cons_succ])
                refine wpQuiet_nil ?_
                intro v16 hb_v16
                have hc_v16 := (bcell hb_v16).1
                have hf_v16 := (bcell hb_v16).2
                have Rv16 := Lib.hid (R2.out.below hb_v16)
                clear hc_v16 hf_v16 hb_v16
                clear y0 y1 y4 c0 c1 g0 g1 kk0 kk1 sz_ sy_
                have y0 := Rv16.out.x0
                have y1 := Rv16.out.x1
                have y4 := Rv16.out.x4
                have c0 := Rv16.out.c0
                have c1 := Rv16.out.c1
                have g0 := Rv16.out.f0
                have g1 := Rv16.out.f1
                have kk0 : v16.cell? ⟨wb.heap.size + 1, 0, none⟩ = some (.int .u64 a) := (Rv16.out.but.cell (a := ⟨wb.heap.size + 1, 0, none⟩) (by simp; omega) (by simp; omega) (by simp)).trans h10
                have kk1 : v16.cell? ⟨wb.heap.size + 1, 1, none⟩ = some (.int .u64 b) := (Rv16.out.but.cell (a := ⟨wb.heap.size + 1, 1, none⟩) (by simp; omega) (by simp; omega) (by simp)).trans h11
                have sz_ : wr.heap.size < v16.heap.size := cell_lt Rv16.out.x0
                have sy_ : wb.heap.size + 1 < v16.heap.size := cell_lt kk0
                go_wp2
                refine wp_region_below (by kernel_rfl) (by kernel_rfl) ?_
                repeat first | go_big_quiet_skip | (go_big_quiet_want; go_big_quiet_op; go_big_quiet_on) | (go_big_quiet_want; rename_i K hK; apply quiet_mk; (focus (intro w1 hw1; have hc1 := (bcell hw1).1; have hf1 := (bcell hw1).2; go_simp; first | done | rfl | (fail))); refine hK _ ?_; clear hK K; try simp only [Act.put, List.setIfInBounds_toArray, List.set_cons_zero, List.set_cons_succ])
                refine wpQuiet_nil ?_
                intro v17 hb_v17
                have hc_v17 := (bcell hb_v17).1
                have hf_v17 := (bcell hb_v17).2
                have Rv17 := Lib.hid (Rv16.out.below hb_v17)
                clear hc_v17 hf_v17 hb_v17
                clear y0 y1 y4 c0 c1 g0 g1 kk0 kk1 sz_ sy_
                have y0 := Rv17.out.x0
                have y1 := Rv17.out.x1
                have y4 := Rv17.out.x4
                have c0 := Rv17.out.c0
                have c1 := Rv17.out.c1
                have g0 := Rv17.out.f0
                have g1 := Rv17.out.f1
                have kk0 : v17.cell? ⟨wb.heap.size + 1, 0, none⟩ = some (.int .u64 a) := (Rv17.out.but.cell (a := ⟨wb.heap.size + 1, 0, none⟩) (by simp; omega) (by simp; omega) (by simp)).trans h10
                have kk1 : v17.cell? ⟨wb.heap.size + 1, 1, none⟩ = some (.int .u64 b) := (Rv17.out.but.cell (a := ⟨wb.heap.size + 1, 1, none⟩) (by simp; omega) (by simp; omega) (by simp)).trans h11
                have sz_ : wr.heap.size < v17.heap.size := cell_lt Rv17.out.x0
                have sy_ : wb.heap.size + 1 < v17.heap.size := cell_lt kk0
                go_wp2
                rw [rounds_succ]
                refine wp_gen (fun W => RoundW W0 W mb wb.heap.size wr.heap.size f n s0 s1 ⟨x0, xn, xbn, xbd, xnd⟩) Rv17.out ?_
                intro v18 hv18
                have Rv18 := Lib.hid hv18
                clear hv18
                clear y0 y1 y4 c0 c1 g0 g1 kk0 kk1 sz_ sy_
                have y0 := Rv18.out.x0
                have y1 := Rv18.out.x1
                have y4 := Rv18.out.x4
                have c0 := Rv18.out.c0
                have c1 := Rv18.out.c1
                have g0 := Rv18.out.f0
                have g1 := Rv18.out.f1
                have kk0 : v18.cell? ⟨wb.heap.size + 1, 0, none⟩ = some (.int .u64 a) := (Rv18.out.but.cell (a := ⟨wb.heap.size + 1, 0, none⟩) (by simp; omega) (by simp; omega) (by simp)).trans h10
                have kk1 : v18.cell? ⟨wb.heap.size + 1, 1, none⟩ = some (.int .u64 b) := (Rv18.out.but.cell (a := ⟨wb.heap.size + 1, 1, none⟩) (by simp; omega) (by simp; omega) (by simp)).trans h11
                have sz_ : wr.heap.size < v18.heap.size := cell_lt Rv18.out.x0
                have sy_ : wb.heap.size + 1 < v18.heap.size := cell_lt kk0
                by_cases e1 : xn = b
                · have q1 : (xn == b) = true := beq_iff_eq.mpr e1
                  replace e1 := Lib.hid e1
                  go_wp2
                  refine wp_region_below (by kernel_rfl) (by kernel_rfl) ?_
                  repeat first | go_big_quiet_skip | (go_big_quiet_want; go_big_quiet_op; go_big_quiet_on) | (go_big_quiet_want; rename_i K hK; apply quiet_mk; (focus (intro w1 hw1; have hc1 := (bcell hw1).1; have hf1 := (bcell hw1).2; go_simp; first | done | rfl | (fail))); refine hK _ ?_; clear hK K; try simp only [Act.put, List.setIfInBounds_toArray, List.set_cons_zero, List.set_cons_succ])
                  refine wpQuiet_nil ?_
                  intro v19 hb_v19
                  have hc_v19 := (bcell hb_v19).1
                  have hf_v19 := (bcell hb_v19).2
                  have Rv19 := Lib.hid (Rv18.out.below hb_v19)
                  clear hc_v19 hf_v19 hb_v19
                  clear y0 y1 y4 c0 c1 g0 g1 kk0 kk1 sz_ sy_
                  have y0 := Rv19.out.x0
                  have y1 := Rv19.out.x1
                  have y4 := Rv19.out.x4
                  have c0 := Rv19.out.c0
                  have c1 := Rv19.out.c1
                  have g0 := Rv19.out.f0
                  have g1 := Rv19.out.f1
                  have kk0 : v19.cell? ⟨wb.heap.size + 1, 0, none⟩ = some (.int .u64 a) := (Rv19.out.but.cell (a := ⟨wb.heap.size + 1, 0, none⟩) (by simp; omega) (by simp; omega) (by simp)).trans h10
                  have kk1 : v19.cell? ⟨wb.heap.size + 1, 1, none⟩ = some (.int .u64 b) := (Rv19.out.but.cell (a := ⟨wb.heap.size + 1, 1, none⟩) (by simp; omega) (by simp; omega) (by simp)).trans h11
                  have sz_ : wr.heap.size < v19.heap.size := cell_lt Rv19.out.x0
                  have sy_ : wb.heap.size + 1 < v19.heap.size := cell_lt kk0
                  go_wp2
                  refine wp_region_below (by kernel_rfl) (by kernel_rfl) ?_
                  repeat first | go_big_quiet_skip | (go_big_quiet_want; go_big_quiet_op; go_big_quiet_on) | (go_big_quiet_want; rename_i K hK; apply quiet_mk; (focus (intro w1 hw1; have hc1 := (bcell hw1).1; have hf1 := (bcell hw1).2; go_simp; first | done | rfl | (fail))); refine hK _ ?_; clear hK K; try simp only [Act.put, List.setIfInBounds_toArray, List.set_cons_zero, List.set_cons_succ])
                  refine wpQuiet_nil ?_
                  intro v20 hb_v20
                  have hc_v20 := (bcell hb_v20).1
                  have hf_v20 := (bcell hb_v20).2
                  have Rv20 := Lib.hid (Rv19.out.below hb_v20)
                  clear hc_v20 hf_v20 hb_v20
                  clear y0 y1 y4 c0 c1 g0 g1 kk0 kk1 sz_ sy_
                  have y0 := Rv20.out.x0
                  have y1 := Rv20.out.x1
                  have y4 := Rv20.out.x4
                  have c0 := Rv20.out.c0
                  have c1 := Rv20.out.c1
                  have g0 := Rv20.out.f0
                  have g1 := Rv20.out.f1
                  have kk0 : v20.cell? ⟨wb.heap.size + 1, 0, none⟩ = some (.int .u64 a) := (Rv20.out.but.cell (a := ⟨wb.heap.size + 1, 0, none⟩) (by simp; omega) (by simp; omega) (by simp)).trans h10
                  have kk1 : v20.cell? ⟨wb.heap.size + 1, 1, none⟩ = some (.int .u64 b) := (Rv20.out.but.cell (a := ⟨wb.heap.size + 1, 1, none⟩) (by simp; omega) (by simp; omega) (by simp)).trans h11
                  have sz_ : wr.heap.size < v20.heap.size := cell_lt Rv20.out.x0
                  have sy_ : wb.heap.size + 1 < v20.heap.size := cell_lt kk0
                  go_wp2
                  rw [rounds_succ]
                  refine wp_gen (fun W => RoundW W0 W mb wb.heap.size wr.heap.size f n s0 s1 ⟨x0, xn, xbn, xbd, xnd⟩) Rv20.out ?_
                  intro v21 hv21
                  have Rv21 := Lib.hid hv21
                  clear hv21
                  clear y0 y1 y4 c0 c1 g0 g1 kk0 kk1 sz_ sy_
                  have y0 := Rv21.out.x0
                  have y1 := Rv21.out.x1
                  have y4 := Rv21.out.x4
                  have c0 := Rv21.out.c0
                  have c1 := Rv21.out.c1
                  have g0 := Rv21.out.f0
                  have g1 := Rv21.out.f1
                  have kk0 : v21.cell? ⟨wb.heap.size + 1, 0, none⟩ = some (.int .u64 a) := (Rv21.out.but.cell (a := ⟨wb.heap.size + 1, 0, none⟩) (by simp; omega) (by simp; omega) (by simp)).trans h10
                  have kk1 : v21.cell? ⟨wb.heap.size + 1, 1, none⟩ = some (.int .u64 b) := (Rv21.out.but.cell (a := ⟨wb.heap.size + 1, 1, none⟩) (by simp; omega) (by simp; omega) (by simp)).trans h11
                  have sz_ : wr.heap.size < v21.heap.size := cell_lt Rv21.out.x0
                  have sy_ : wb.heap.size + 1 < v21.heap.size := cell_lt kk0
                  go_wp2
                  go_roundw
                  case measure => simp [intOf]; omega
                  case rel => exact ⟨k + 1, by go_num, by omega, by omega, f, n, s0, s1, hst.out, by omega, Rv21.out.m, Rv21.out.c0, Rv21.out.c1, Rv21.out.f0, Rv21.out.f1, Rv21.out.but⟩
                · have q1 : (xn == b) = false := beq_eq_false_iff_ne.mpr e1
                  replace e1 := Lib.hid e1
                  go_wp2
                  refine wp_region_below (by kernel_rfl) (by kernel_rfl) ?_
                  repeat first | go_big_quiet_skip | (go_big_quiet_want; go_big_quiet_op; go_big_quiet_on) | (go_big_quiet_want; rename_i K hK; apply quiet_mk; (focus (intro w1 hw1; have hc1 := (bcell hw1).1; have hf1 := (bcell hw1).2; go_simp; first | done | rfl | (fail))); refine hK _ ?_; clear hK K; try simp only [Act.put, List.setIfInBounds_toArray, List.set_cons_zero, List.set_cons_succ])
                  refine wpQuiet_nil ?_
                  intro v22 hb_v22
                  have hc_v22 := (bcell hb_v22).1
                  have hf_v22 := (bcell hb_v22).2
                  have Rv22 := Lib.hid (Rv18.out.below hb_v22)
                  clear hc_v22 hf_v22 hb_v22
                  clear y0 y1 y4 c0 c1 g0 g1 kk0 kk1 sz_ sy_
                  have y0 := Rv22.out.x0
                  have y1 := Rv22.out.x1
                  have y4 := Rv22.out.x4
                  have c0 := Rv22.out.c0
                  have c1 := Rv22.out.c1
                  have g0 := Rv22.out.f0
                  have g1 := Rv22.out.f1
                  have kk0 : v22.cell? ⟨wb.heap.size + 1, 0, none⟩ = some (.int .u64 a) := (Rv22.out.but.cell (a := ⟨wb.heap.size + 1, 0, none⟩) (by simp; omega) (by simp; omega) (by simp)).trans h10
                  have kk1 : v22.cell? ⟨wb.heap.size + 1, 1, none⟩ = some (.int .u64 b) := (Rv22.out.but.cell (a := ⟨wb.heap.size + 1, 1, none⟩) (by simp; omega) (by simp; omega) (by simp)).trans h11
                  have sz_ : wr.heap.size < v22.heap.size := cell_lt Rv22.out.x0
                  have sy_ : wb.heap.size + 1 < v22.heap.size := cell_lt kk0
                  go_wp2
                  refine wp_region_below (by kernel_rfl) (by kernel_rfl) ?_
                  repeat first | go_big_quiet_skip | (go_big_quiet_want; go_big_quiet_op; go_big_quiet_on) | (go_big_quiet_want; rename_i K hK; apply quiet_mk; (focus (intro w1 hw1; have hc1 := (bcell hw1).1; have hf1 := (bcell hw1).2; go_simp; first | done | rfl | (fail))); refine hK _ ?_; clear hK K; try simp only [Act.put, List.setIfInBounds_toArray, List.set_cons_zero, List.set_cons_succ])
                  refine wpQuiet_nil ?_
                  intro v23 hb_v23
                  have hc_v23 := (bcell hb_v23).1
                  have hf_v23 := (bcell hb_v23).2
                  have Rv23 := Lib.hid (Rv22.out.below hb_v23)
                  clear hc_v23 hf_v23 hb_v23
                  clear y0 y1 y4 c0 c1 g0 g1 kk0 kk1 sz_ sy_
                  have y0 := Rv23.out.x0
                  have y1 := Rv23.out.x1
                  have y4 := Rv23.out.x4
                  have c0 := Rv23.out.c0
                  have c1 := Rv23.out.c1
                  have g0 := Rv23.out.f0
                  have g1 := Rv23.out.f1
                  have kk0 : v23.cell? ⟨wb.heap.size + 1, 0, none⟩ = some (.int .u64 a) := (Rv23.out.but.cell (a := ⟨wb.heap.size + 1, 0, none⟩) (by simp; omega) (by simp; omega) (by simp)).trans h10
                  have kk1 : v23.cell? ⟨wb.heap.size + 1, 1, none⟩ = some (.int .u64 b) := (Rv23.out.but.cell (a := ⟨wb.heap.size + 1, 1, none⟩) (by simp; omega) (by simp; omega) (by simp)).trans h11
                  have sz_ : wr.heap.size < v23.heap.size := cell_lt Rv23.out.x0
                  have sy_ : wb.heap.size + 1 < v23.heap.size := cell_lt kk0
                  go_wp2
                  rw [rounds_succ]
                  refine wp_gen (fun W => RoundW W0 W mb wb.heap.size wr.heap.size f n s0 s1 ⟨x0, xn, xbn, xbd, xnd⟩) Rv23.out ?_
                  intro v24 hv24
                  have Rv24 := Lib.hid hv24
                  clear hv24
                  clear y0 y1 y4 c0 c1 g0 g1 kk0 kk1 sz_ sy_
                  have y0 := Rv24.out.x0
                  have y1 := Rv24.out.x1
                  have y4 := Rv24.out.x4
                  have c0 := Rv24.out.c0
                  have c1 := Rv24.out.c1
                  have g0 := Rv24.out.f0
                  have g1 := Rv24.out.f1
                  have kk0 : v24.cell? ⟨wb.heap.size + 1, 0, none⟩ = some (.int .u64 a) := (Rv24.out.but.cell (a := ⟨wb.heap.size + 1, 0, none⟩) (by simp; omega) (by simp; omega) (by simp)).trans h10
                  have kk1 : v24.cell? ⟨wb.heap.size + 1, 1, none⟩ = some (.int .u64 b) := (Rv24.out.but.cell (a := ⟨wb.heap.size + 1, 1, none⟩) (by simp; omega) (by simp; omega) (by simp)).trans h11
                  have sz_ : wr.heap.size < v24.heap.size := cell_lt Rv24.out.x0
                  have sy_ : wb.heap.size + 1 < v24.heap.size := cell_lt kk0
                  go_wp2
                  go_roundw
                  case measure => simp [intOf]; omega
                  case rel => exact ⟨k + 1, by go_num, by omega, by omega, f, n, s0, s1, hst.out, by omega, Rv24.out.m, Rv24.out.c0, Rv24.out.c1, Rv24.out.f0, Rv24.out.f1, Rv24.out.but⟩
              · have q0 : (xn == a) = false := beq_eq_false_iff_ne.mpr e0
                replace e0 := Lib.hid e0
                go_wp2
                refine wp_region_below (by kernel_rfl) (by kernel_rfl) ?_
                repeat first | go_big_quiet_skip | (go_big_quiet_want; go_big_quiet_op; go_big_quiet_on) | (go_big_quiet_want; rename_i K hK; apply quiet_mk; (focus (intro w1 hw1; have hc1 := (bcell hw1).1; have hf1 := (bcell hw1).2; go_simp; first | done | rfl | (fail))); refine hK _ ?_; clear hK K; try simp only [Act.put, List.setIfInBounds_toArray, List.set_cons_zero, List.set_cons_succ])
                refine wpQuiet_nil ?_
                intro v25 hb_v25
                have hc_v25 := (bcell hb_v25).1
                have hf_v25 := (bcell hb_v25).2
                have Rv25 := Lib.hid (R2.out.below hb_v25)
                clear hc_v25 hf_v25 hb_v25
                clear y0 y1 y4 c0 c1 g0 g1 kk0 kk1 sz_ sy_
                have y0 := Rv25.out.x0
                have y1 := Rv25.out.x1
                have y4 := Rv25.out.x4
                have c0 := Rv25.out.c0
                have c1 := Rv25.out.c1
                have g0 := Rv25.out.f0
                have g1 := Rv25.out.f1
                have kk0 : v25.cell? ⟨wb.heap.size + 1, 0, none⟩ = some (.int .u64 a) := (Rv25.out.but.cell (a := ⟨wb.heap.size + 1, 0, none⟩) (by simp; omega) (by simp; omega) (by simp)).trans h10
                have kk1 : v25.cell? ⟨wb.heap.size + 1, 1, none⟩ = some (.int .u64 b) := (Rv25.out.but.cell (a := ⟨wb.heap.size + 1, 1, none⟩) (by simp; omega) (by simp; omega) (by simp)).trans h11
                have sz_ : wr.heap.size < v25.heap.size := cell_lt Rv25.out.x0
                have sy_ : wb.heap.size + 1 < v25.heap.size := cell_lt kk0
                go_wp2
                refine wp_region_below (by kernel_rfl) (by kernel_rfl) ?_
                repeat first | go_big_quiet_skip | (go_big_quiet_want; go_big_quiet_op; go_big_quiet_on) | (go_big_quiet_want; rename_i K hK; apply quiet_mk; (focus (intro w1 hw1; have hc1 := (bcell hw1).1; have hf1 := (bcell hw1).2; go_simp; first | done | rfl | (fail))); refine hK _ ?_; clear hK K; try simp only [Act.put, List.setIfInBounds_toArray, List.set_cons_zero, List.set_cons_succ])
                refine wpQuiet_nil ?_
                intro v26 hb_v26
                have hc_v26 := (bcell hb_v26).1
                have hf_v26 := (bcell hb_v26).2
                have Rv26 := Lib.hid (Rv25.out.below hb_v26)
                clear hc_v26 hf_v26 hb_v26
                clear y0 y1 y4 c0 c1 g0 g1 kk0 kk1 sz_ sy_
                have y0 := Rv26.out.x0
                have y1 := Rv26.out.x1
                have y4 := Rv26.out.x4
                have c0 := Rv26.out.c0
                have c1 := Rv26.out.c1
                have g0 := Rv26.out.f0
                have g1 := Rv26.out.f1
                have kk0 : v26.cell? ⟨wb.heap.size + 1, 0, none⟩ = some (.int .u64 a) := (Rv26.out.but.cell (a := ⟨wb.heap.size + 1, 0, none⟩) (by simp; omega) (by simp; omega) (by simp)).trans h10
                have kk1 : v26.cell? ⟨wb.heap.size + 1, 1, none⟩ = some (.int .u64 b) := (Rv26.out.but.cell (a := ⟨wb.heap.size + 1, 1, none⟩) (by simp; omega) (by simp; omega) (by simp)).trans h11
                have sz_ : wr.heap.size < v26.heap.size := cell_lt Rv26.out.x0
                have sy_ : wb.heap.size + 1 < v26.heap.size := cell_lt kk0
                go_wp2
                rw [rounds_succ]
                refine wp_gen (fun W => RoundW W0 W mb wb.heap.size wr.heap.size f n s0 s1 ⟨x0, xn, xbn, xbd, xnd⟩) Rv26.out ?_
                intro v27 hv27
                have Rv27 := Lib.hid hv27
                clear hv27
                clear y0 y1 y4 c0 c1 g0 g1 kk0 kk1 sz_ sy_
                have y0 := Rv27.out.x0
                have y1 := Rv27.out.x1
                have y4 := Rv27.out.x4
                have c0 := Rv27.out.c0
                have c1 := Rv27.out.c1
                have g0 := Rv27.out.f0
                have g1 := Rv27.out.f1
                have kk0 : v27.cell? ⟨wb.heap.size + 1, 0, none⟩ = some (.int .u64 a) := (Rv27.out.but.cell (a := ⟨wb.heap.size + 1, 0, none⟩) (by simp; omega) (by simp; omega) (by simp)).trans h10
                have kk1 : v27.cell? ⟨wb.heap.size + 1, 1, none⟩ = some (.int .u64 b) := (Rv27.out.but.cell (a := ⟨wb.heap.size + 1, 1, none⟩) (by simp; omega) (by simp; omega) (by simp)).trans h11
                have sz_ : wr.heap.size < v27.heap.size := cell_lt Rv27.out.x0
                have sy_ : wb.heap.size + 1 < v27.heap.size := cell_lt kk0
                by_cases e1 : xn = b
                · have q1 : (xn == b) = true := beq_iff_eq.mpr e1
                  replace e1 := Lib.hid e1
                  go_wp2
                  refine wp_region_below (by kernel_rfl) (by kernel_rfl) ?_
                  repeat first | go_big_quiet_skip | (go_big_quiet_want; go_big_quiet_op; go_big_quiet_on) | (go_big_quiet_want; rename_i K hK; apply quiet_mk; (focus (intro w1 hw1; have hc1 := (bcell hw1).1; have hf1 := (bcell hw1).2; go_simp; first | done | rfl | (fail))); refine hK _ ?_; clear hK K; try simp only [Act.put, List.setIfInBounds_toArray, List.set_cons_zero, List.set_cons_succ])
                  refine wpQuiet_nil ?_
                  intro v28 hb_v28
                  have hc_v28 := (bcell hb_v28).1
                  have hf_v28 := (bcell hb_v28).2
                  have Rv28 := Lib.hid (Rv27.out.below hb_v28)
                  clear hc_v28 hf_v28 hb_v28
                  clear y0 y1 y4 c0 c1 g0 g1 kk0 kk1 sz_ sy_
                  have y0 := Rv28.out.x0
                  have y1 := Rv28.out.x1
                  have y4 := Rv28.out.x4
                  have c0 := Rv28.out.c0
                  have c1 := Rv28.out.c1
                  have g0 := Rv28.out.f0
                  have g1 := Rv28.out.f1
                  have kk0 : v28.cell? ⟨wb.heap.size + 1, 0, none⟩ = some (.int .u64 a) := (Rv28.out.but.cell (a := ⟨wb.heap.size + 1, 0, none⟩) (by simp; omega) (by simp; omega) (by simp)).trans h10
                  have kk1 : v28.cell? ⟨wb.heap.size + 1, 1, none⟩ = some (.int .u64 b) := (Rv28.out.but.cell (a := ⟨wb.heap.size + 1, 1, none⟩) (by simp; omega) (by simp; omega) (by simp)).trans h11
                  have sz_ : wr.heap.size < v28.heap.size := cell_lt Rv28.out.x0
                  have sy_ : wb.heap.size + 1 < v28.heap.size := cell_lt kk0
                  go_wp2
                  refine wp_region_below (by kernel_rfl) (by kernel_rfl) ?_
                  repeat first | go_big_quiet_skip | (go_big_quiet_want; go_big_quiet_op; go_big_quiet_on) | (go_big_quiet_want; rename_i K hK; apply quiet_mk; (focus (intro w1 hw1; have hc1 := (bcell hw1).1; have hf1 := (bcell hw1).2; go_simp; first | done | rfl | (fail))); refine hK _ ?_; clear hK K; try simp only [Act.put, List.setIfInBounds_toArray, List.set_cons_zero, List.set_cons_succ])
                  refine wpQuiet_nil ?_
                  intro v29 hb_v29
                  have hc_v29 := (bcell hb_v29).1
                  have hf_v29 := (bcell hb_v29).2
                  have Rv29 := Lib.hid (Rv28.out.below hb_v29)
                  clear hc_v29 hf_v29 hb_v29
                  clear y0 y1 y4 c0 c1 g0 g1 kk0 kk1 sz_ sy_
                  have y0 := Rv29.out.x0
                  have y1 := Rv29.out.x1
                  have y4 := Rv29.out.x4
                  have c0 := Rv29.out.c0
                  have c1 := Rv29.out.c1
                  have g0 := Rv29.out.f0
                  have g1 := Rv29.out.f1
                  have kk0 : v29.cell? ⟨wb.heap.size + 1, 0, none⟩ = some (.int .u64 a) := (Rv29.out.but.cell (a := ⟨wb.heap.size + 1, 0, none⟩) (by simp; omega) (by simp; omega) (by simp)).trans h10
                  have kk1 : v29.cell? ⟨wb.heap.size + 1, 1, none⟩ = some (.int .u64 b) := (Rv29.out.but.cell (a := ⟨wb.heap.size + 1, 1, none⟩) (by simp; omega) (by simp; omega) (by simp)).trans h11
                  have sz_ : wr.heap.size < v29.heap.size := cell_lt Rv29.out.x0
                  have sy_ : wb.heap.size + 1 < v29.heap.size := cell_lt kk0
                  go_wp2
                  rw [rounds_succ]
                  refine wp_gen (fun W => RoundW W0 W mb wb.heap.size wr.heap.size f n s0 s1 ⟨x0, xn, xbn, xbd, xnd⟩) Rv29.out ?_
                  intro v30 hv30
                  have Rv30 := Lib.hid hv30
                  clear hv30
                  clear y0 y1 y4 c0 c1 g0 g1 kk0 kk1 sz_ sy_
                  have y0 := Rv30.out.x0
                  have y1 := Rv30.out.x1
                  have y4 := Rv30.out.x4
                  have c0 := Rv30.out.c0
                  have c1 := Rv30.out.c1
                  have g0 := Rv30.out.f0
                  have g1 := Rv30.out.f1
                  have kk0 : v30.cell? ⟨wb.heap.size + 1, 0, none⟩ = some (.int .u64 a) := (Rv30.out.but.cell (a := ⟨wb.heap.size + 1, 0, none⟩) (by simp; omega) (by simp; omega) (by simp)).trans h10
                  have kk1 : v30.cell? ⟨wb.heap.size + 1, 1, none⟩ = some (.int .u64 b) := (Rv30.out.but.cell (a := ⟨wb.heap.size + 1, 1, none⟩) (by simp; omega) (by simp; omega) (by simp)).trans h11
                  have sz_ : wr.heap.size < v30.heap.size := cell_lt Rv30.out.x0
                  have sy_ : wb.heap.size + 1 < v30.heap.size := cell_lt kk0
                  go_wp2
                  go_roundw
                  case measure => simp [intOf]; omega
                  case rel => exact ⟨k + 1, by go_num, by omega, by omega, f, n, s0, s1, hst.out, by omega, Rv30.out.m, Rv30.out.c0, Rv30.out.c1, Rv30.out.f0, Rv30.out.f1, Rv30.out.but⟩
                · have q1 : (xn == b) = false := beq_eq_false_iff_ne.mpr e1
                  replace e1 := Lib.hid e1
                  go_wp2
                  refine wp_region_below (by kernel_rfl) (by kernel_rfl) ?_
                  repeat first | go_big_quiet_skip | (go_big_quiet_want; go_big_quiet_op; go_big_quiet_on) | (go_big_quiet_want; rename_i K hK; apply quiet_mk; (focus (intro w1 hw1; have hc1 := (bcell hw1).1; have hf1 := (bcell hw1).2; go_simp; first | done | rfl | (fail))); refine hK _ ?_; clear hK K; try simp only [Act.put, List.setIfInBounds_toArray, List.set_cons_zero, List.set_cons_succ])
                  refine wpQuiet_nil ?_
                  intro v31 hb_v31
                  have hc_v31 := (bcell hb_v31).1
                  have hf_v31 := (bcell hb_v31).2
                  have Rv31 := Lib.hid (Rv27.out.below hb_v31)
                  clear hc_v31 hf_v31 hb_v31
                  clear y0 y1 y4 c0 c1 g0 g1 kk0 kk1 sz_ sy_
                  have y0 := Rv31.out.x0
                  have y1 := Rv31.out.x1
                  have y4 := Rv31.out.x4
                  have c0 := Rv31.out.c0
                  have c1 := Rv31.out.c1
                  have g0 := Rv31.out.f0
                  have g1 := Rv31.out.f1
                  have kk0 : v31.cell? ⟨wb.heap.size + 1, 0, none⟩ = some (.int .u64 a) := (Rv31.out.but.cell (a := ⟨wb.heap.size + 1, 0, none⟩) (by simp; omega) (by simp; omega) (by simp)).trans h10
                  have kk1 : v31.cell? ⟨wb.heap.size + 1, 1, none⟩ = some (.int .u64 b) := (Rv31.out.but.cell (a := ⟨wb.heap.size + 1, 1, none⟩) (by simp; omega) (by simp; omega) (by simp)).trans h11
                  have sz_ : wr.heap.size < v31.heap.size := cell_lt Rv31.out.x0
                  have sy_ : wb.heap.size + 1 < v31.heap.size := cell_lt kk0
                  go_wp2
                  refine wp_region_below (by kernel_rfl) (by kernel_rfl) ?_
                  repeat first | go_big_quiet_skip | (go_big_quiet_want; go_big_quiet_op; go_big_quiet_on) | (go_big_quiet_want; rename_i K hK; apply quiet_mk; (focus (intro w1 hw1; have hc1 := (bcell hw1).1; have hf1 := (bcell hw1).2; go_simp; first | done | rfl | (fail))); refine hK _ ?_; clear hK K; try simp only [Act.put, List.setIfInBounds_toArray, List.set_cons_zero, List.set_cons_succ])
                  refine wpQuiet_nil ?_
                  intro v32 hb_v32
                  have hc_v32 := (bcell hb_v32).1
                  have hf_v32 := (bcell hb_v32).2
                  have Rv32 := Lib.hid (Rv31.out.below hb_v32)
                  clear hc_v32 hf_v32 hb_v32
                  clear y0 y1 y4 c0 c1 g0 g1 kk0 kk1 sz_ sy_
                  have y0 := Rv32.out.x0
                  have y1 := Rv32.out.x1
                  have y4 := Rv32.out.x4
                  have c0 := Rv32.out.c0
                  have c1 := Rv32.out.c1
                  have g0 := Rv32.out.f0
                  have g1 := Rv32.out.f1
                  have kk0 : v32.cell? ⟨wb.heap.size + 1, 0, none⟩ = some (.int .u64 a) := (Rv32.out.but.cell (a := ⟨wb.heap.size + 1, 0, none⟩) (by simp; omega) (by simp; omega) (by simp)).trans h10
                  have kk1 : v32.cell? ⟨wb.heap.size + 1, 1, none⟩ = some (.int .u64 b) := (Rv32.out.but.cell (a := ⟨wb.heap.size + 1, 1, none⟩) (by simp; omega) (by simp; omega) (by simp)).trans h11
                  have sz_ : wr.heap.size < v32.heap.size := cell_lt Rv32.out.x0
                  have sy_ : wb.heap.size + 1 < v32.heap.size := cell_lt kk0
                  go_wp2
                  rw [rounds_succ]
                  refine wp_gen (fun W => RoundW W0 W mb wb.heap.size wr.heap.size f n s0 s1 ⟨x0, xn, xbn, xbd, xnd⟩) Rv32.out ?_
                  intro v33 hv33
                  have Rv33 := Lib.hid hv33
                  clear hv33
                  clear y0 y1 y4 c0 c1 g0 g1 kk0 kk1 sz_ sy_
                  have y0 := Rv33.out.x0
                  have y1 := Rv33.out.x1
                  have y4 := Rv33.out.x4
                  have c0 := Rv33.out.c0
                  have c1 := Rv33.out.c1
                  have g0 := Rv33.out.f0
                  have g1 := Rv33.out.f1
                  have kk0 : v33.cell? ⟨wb.heap.size + 1, 0, none⟩ = some (.int .u64 a) := (Rv33.out.but.cell (a := ⟨wb.heap.size + 1, 0, none⟩) (by simp; omega) (by simp; omega) (by simp)).trans h10
                  have kk1 : v33.cell? ⟨wb.heap.size + 1, 1, none⟩ = some (.int .u64 b) := (Rv33.out.but.cell (a := ⟨wb.heap.size + 1, 1, none⟩) (by simp; omega) (by simp; omega) (by simp)).trans h11
                  have sz_ : wr.heap.size < v33.heap.size := cell_lt Rv33.out.x0
                  have sy_ : wb.heap.size + 1 < v33.heap.size := cell_lt kk0
                  go_wp2
                  go_roundw
                  case measure => simp [intOf]; omega
                  case rel => exact ⟨k + 1, by go_num, by omega, by omega, f, n, s0, s1, hst.out, by omega, Rv33.out.m, Rv33.out.c0, Rv33.out.c1, Rv33.out.f0, Rv33.out.f1, Rv33.out.but⟩
          --END ROUND
        ·
          have TL_ : Hid (TalAt wr tb gb mb) := Lib.hid (h1.out.but hbut.out (by omega) (by omega))
          have GL_ : Hid (GrpAt wr gb c (2 * c.f + 1)) := Lib.hid (h3.out.but hbut.out (by omega) (by omega))
          have TT_ : Hid (Tab wr) := Lib.hid (h4.out.but hbut.out (by have h_ := HT.out.1; omega) (by have h_ := HT.out.1; omega))
          obtain ⟨t1, t2, t3, t4⟩ := hst.out
          have kk0 : wr.cell? ⟨wb.heap.size + 1, 0, none⟩ = some (.int .u64 a) := (hbut.out.cell (a := ⟨wb.heap.size + 1, 0, none⟩) (by simp; omega) (by simp; omega) (by simp)).trans h10
          have kk1 : wr.cell? ⟨wb.heap.size + 1, 1, none⟩ = some (.int .u64 b) := (hbut.out.cell (a := ⟨wb.heap.size + 1, 1, none⟩) (by simp; omega) (by simp; omega) (by simp)).trans h11
          have kf : wr.cell? ⟨w.heap.size, 0, none⟩ = some (.int .i64 c.f) := (hbut.out.cell (a := ⟨w.heap.size, 0, none⟩) (by simp; omega) (by simp; omega) (by simp; omega)).trans h5
          have RA : ∀ w1, Below wr.heap.size wr w1 → Calls Tryd.prog 47 #[.pointer (some ⟨tb, 0, none⟩), .int .u64 a] w1 fun e w' => e = .returned (.bool (decide (c.f + 1 ≤ (cardB s0 : Int)))) ∧ Below w1.heap.size w1 w' := fun w1 hw => by
            have h_ := treached_at tb gb mb c f n a wa_.out w1 (TL_.out.below TL_.out.lt hw) (hm.out.below hm.out.lt hw) (GL_.out.below GL_.out.lt hw) f1 f2 (TT_.out.below (Nat.le_refl _) hw)
            rw [t1, t3.card f1 f2] at h_
            exact h_
          have RB : ∀ w1, Below wr.heap.size wr w1 → Calls Tryd.prog 47 #[.pointer (some ⟨tb, 0, none⟩), .int .u64 b] w1 fun e w' => e = .returned (.bool (decide (c.f + 1 ≤ (cardB s1 : Int)))) ∧ Below w1.heap.size w1 w' := fun w1 hw => by
            have h_ := treached_at tb gb mb c f n b wb_.out w1 (TL_.out.below TL_.out.lt hw) (hm.out.below hm.out.lt hw) (GL_.out.below GL_.out.lt hw) f1 f2 (TT_.out.below (Nat.le_refl _) hw)
            rw [t2, t4.card f1 f2] at h_
            exact h_
          have NA : ∀ w1, Below wr.heap.size wr w1 → Calls Tryd.prog 39 #[.pointer (some ⟨tb, 0, none⟩), .int .u64 a] w1 fun e w' => e = .returned (.int .u32 (s0 : Nat)) ∧ w1 = w' := fun w1 hw => by
            have h_ := tnodes_at tb gb mb f n a wa_.out w1 (TL_.out.below TL_.out.lt hw) (hm.out.below hm.out.lt hw)
            rw [t1] at h_
            exact h_
          have NB : ∀ w1, Below wr.heap.size wr w1 → Calls Tryd.prog 39 #[.pointer (some ⟨tb, 0, none⟩), .int .u64 b] w1 fun e w' => e = .returned (.int .u32 (s1 : Nat)) ∧ w1 = w' := fun w1 hw => by
            have h_ := tnodes_at tb gb mb f n b wb_.out w1 (TL_.out.below TL_.out.lt hw) (hm.out.below hm.out.lt hw)
            rw [t2] at h_
            exact h_
          have CA := fun w1 (hw : Below wr.heap.size wr w1) => count_any s0 w1 t3.1 (TT_.out.below (Nat.le_refl _) hw)
          have CB := fun w1 (hw : Below wr.heap.size wr w1) => count_any s1 w1 t4.1 (TT_.out.below (Nat.le_refl _) hw)
          have XC := fun w1 (hw : Below wr.heap.size wr w1) => cross_any s0 s1 w1 t3.1 t4.1 (TT_.out.below (Nat.le_refl _) hw)
          have hBE : Hid (Below w.heap.size w wr) := Lib.hid (hB0.out.trans (hbut.out.below (by omega) (by omega) hB0.out.size))
          replace NA := Lib.hid NA
          replace NB := Lib.hid NB
          replace CA := Lib.hid CA
          replace CB := Lib.hid CB
          replace XC := Lib.hid XC
          have u1 : wb.heap.size < wr.heap.size := by omega
          have u2 : wb.heap.size + 1 < wr.heap.size := by omega
          have u3 : w.heap.size < wr.heap.size := by omega
          have mp := fun (ha : majB c s0 = true) (hb : majB c s1 = true) => meet_pure c s0 s1 f1 f2 ha hb
          rw [t3.and, t4.and, t3.card f1 f2, t4.card f1 f2] at mp
          have l0 := t3.1
          have l1 := t4.1
          replace mp := Lib.hid mp
          clear t1 t2 t3 t4 TL_ GL_ TT_ h5 h6 h7 h8 h9 h10 h11 hsz
          by_cases m1 : c.f + 1 ≤ (cardB s0 : Int)
          · have d1 : decide (c.f + 1 ≤ (cardB s0 : Int)) = true := decide_eq_true m1
            by_cases m2 : c.f + 1 ≤ (cardB s1 : Int)
            · have d2 : decide (c.f + 1 ≤ (cardB s1 : Int)) = true := decide_eq_true m2
              obtain ⟨x, x1, x2, x3, x4⟩ := mp.out d1 d2
              replace x1 := Lib.hid x1
              rw [d1] at RA
              rw [d2] at RB
              replace RA := Lib.hid RA
              replace RB := Lib.hid RB
              have ew_ : IntKind.i64.wrap (c.f + 1) = c.f + 1 := by simp only [IntKind.wrap, IntKind.signed, IntKind.bits]; simp; omega
              go_wp2
              refine wp_loop_rounds 3 ?_
              rw [rounds_succ]
              go_wp2
              refine wp_region_below (by kernel_rfl) (by kernel_rfl) ?_
              repeat first | go_big_quiet_skip | (go_big_quiet_want; go_big_quiet_op; go_big_quiet_on) | (go_big_quiet_want; rename_i K hK; apply quiet_mk; (focus (intro w1 hw1; have hc1 := (bcell hw1).1; have hf1 := (bcell hw1).2; go_simp; first | done | rfl | (first | (go_at_call 47; (refine (RA.out _ hw1).mono ?_); rintro e w2 ⟨rfl, hb2⟩; exact ⟨rfl, (hw1.trans (hb2.mono hw1.size)).mono (by simp)⟩) | (go_at_call 15; (refine (CA.out _ hw1).mono ?_); rintro e w2 ⟨rfl, hb2⟩; exact ⟨rfl, (hw1.trans (hb2.mono hw1.size)).mono (by simp)⟩) | (go_at_call 39; (refine (sameB (NA.out _ hw1)).mono ?_); rintro e w2 ⟨rfl, hb2⟩; exact ⟨rfl, (hw1.trans (hb2.mono hw1.size)).mono (by simp)⟩)))); refine hK _ ?_; clear hK K; try simp only [Act.put, List.setIfInBounds_toArray, List.set_cons_zero, List.set_cons_succ])
              refine wpQuiet_nil ?_
              intro wc hb_wc
              have hc_wc := (bcell hb_wc).1
              have hf_wc := (bcell hb_wc).2
              have hz_wc_0 : wb.heap.size < wc.heap.size := by have h_ := hb_wc.size; (try simp at h_); omega
              have hz_wc_1 : wb.heap.size + 1 < wc.heap.size := by have h_ := hb_wc.size; (try simp at h_); omega
              have hz_wc_0 : w.heap.size < wc.heap.size := by have h_ := hb_wc.size; (try simp at h_); omega
              go_wp2
              rw [rounds_succ]
              go_wp2
              refine wp_region_below (by kernel_rfl) (by kernel_rfl) ?_
              repeat first | go_big_quiet_skip | (go_big_quiet_want; go_big_quiet_op; go_big_quiet_on) | (go_big_quiet_want; rename_i K hK; apply quiet_mk; (focus (intro w1 hw1; have hc1 := (bcell hw1).1; have hf1 := (bcell hw1).2; go_simp; first | done | rfl | (first | (go_at_call 47; (refine (RB.out _ (Below.on hb_wc hw1)).mono ?_); rintro e w2 ⟨rfl, hb2⟩; exact ⟨rfl, (hw1.trans (hb2.mono hw1.size)).mono (by simp)⟩) | (go_at_call 15; (refine (CB.out _ (Below.on hb_wc hw1)).mono ?_); rintro e w2 ⟨rfl, hb2⟩; exact ⟨rfl, (hw1.trans (hb2.mono hw1.size)).mono (by simp)⟩) | (go_at_call 39; (refine (sameB (NB.out _ (Below.on hb_wc hw1))).mono ?_); rintro e w2 ⟨rfl, hb2⟩; exact ⟨rfl, (hw1.trans (hb2.mono hw1.size)).mono (by simp)⟩)))); refine hK _ ?_; clear hK K; try simp only [Act.put, List.setIfInBounds_toArray, List.set_cons_zero, List.set_cons_succ])
              refine wpQuiet_nil ?_
              intro wd hb_wd
              have hc_wd := (bcell hb_wd).1
              have hf_wd := (bcell hb_wd).2
              have hz_wd_0 : wb.heap.size < wd.heap.size := by have h_ := hb_wd.size; (try simp at h_); omega
              have hz_wd_1 : wb.heap.size + 1 < wd.heap.size := by have h_ := hb_wd.size; (try simp at h_); omega
              have hz_wd_0 : w.heap.size < wd.heap.size := by have h_ := hb_wd.size; (try simp at h_); omega
              have hB2 := Lib.hid (Below.on hb_wc hb_wd)
              go_wp2
              rw [rounds_succ]
              go_wp2_with fail
              refine (RA.out wd hB2.out).mono ?_
              rintro e we ⟨rfl, hb_we⟩
              have hc_we := (bcell hb_we).1
              have hf_we := (bcell hb_we).2
              have hz_we_0 : wb.heap.size < we.heap.size := by have h_ := hb_we.size; (try simp at h_); omega
              have hz_we_1 : wb.heap.size + 1 < we.heap.size := by have h_ := hb_we.size; (try simp at h_); omega
              have hB3 := Lib.hid (Below.on hB2.out hb_we)
              go_wp2_with fail
              refine (RB.out we hB3.out).mono ?_
              rintro e wf ⟨rfl, hb_wf⟩
              have hc_wf := (bcell hb_wf).1
              have hf_wf := (bcell hb_wf).2
              have hz_wf_0 : wb.heap.size < wf.heap.size := by have h_ := hb_wf.size; (try simp at h_); omega
              have hz_wf_1 : wb.heap.size + 1 < wf.heap.size := by have h_ := hb_wf.size; (try simp at h_); omega
              have hB4 := Lib.hid (Below.on hB3.out hb_wf)
              go_wp2_with fail
              refine (NA.out wf hB4.out).mono ?_
              rintro e w1 ⟨rfl, rfl⟩
              go_wp2_with fail
              refine (NB.out wf hB4.out).mono ?_
              rintro e w1 ⟨rfl, rfl⟩
              go_wp2_with fail
              refine (XC.out wf hB4.out).mono ?_
              rintro e wg ⟨rfl, hb_wg⟩
              rw [x1.out]
              have hc_wg := (bcell hb_wg).1
              have hf_wg := (bcell hb_wg).2
              have hz_wg_0 : wb.heap.size < wg.heap.size := by have h_ := hb_wg.size; (try simp at h_); omega
              have hz_wg_1 : wb.heap.size + 1 < wg.heap.size := by have h_ := hb_wg.size; (try simp at h_); omega
              have A1 := has_any s0 x wg l0
              have A2 := has_any s1 x wg l1
              rw [x3] at A1
              rw [x4] at A2
              replace A1 := Lib.hid A1
              replace A2 := Lib.hid A2
              clear x3 x4
              go_wp2_with fail
              refine A1.out.mono ?_
              rintro e w1 ⟨rfl, rfl⟩
              go_wp2_with fail
              refine A2.out.mono ?_
              rintro e w1 ⟨rfl, rfl⟩
              go_wp2
              go_ret
              exact ⟨by simp, hBE.out.trans ((Below.on hB4.out hb_wg).mono (by omega))⟩
            · have d2 : decide (c.f + 1 ≤ (cardB s1 : Int)) = false := decide_eq_false m2
              rw [d1] at RA
              rw [d2] at RB
              replace RA := Lib.hid RA
              replace RB := Lib.hid RB
              have ew_ : IntKind.i64.wrap (c.f + 1) = c.f + 1 := by simp only [IntKind.wrap, IntKind.signed, IntKind.bits]; simp; omega
              go_wp2
              refine wp_loop_rounds 3 ?_
              rw [rounds_succ]
              go_wp2
              refine wp_region_below (by kernel_rfl) (by kernel_rfl) ?_
              repeat first | go_big_quiet_skip | (go_big_quiet_want; go_big_quiet_op; go_big_quiet_on) | (go_big_quiet_want; rename_i K hK; apply quiet_mk; (focus (intro w1 hw1; have hc1 := (bcell hw1).1; have hf1 := (bcell hw1).2; go_simp; first | done | rfl | (first | (go_at_call 47; (refine (RA.out _ hw1).mono ?_); rintro e w2 ⟨rfl, hb2⟩; exact ⟨rfl, (hw1.trans (hb2.mono hw1.size)).mono (by simp)⟩) | (go_at_call 15; (refine (CA.out _ hw1).mono ?_); rintro e w2 ⟨rfl, hb2⟩; exact ⟨rfl, (hw1.trans (hb2.mono hw1.size)).mono (by simp)⟩) | (go_at_call 39; (refine (sameB (NA.out _ hw1)).mono ?_); rintro e w2 ⟨rfl, hb2⟩; exact ⟨rfl, (hw1.trans (hb2.mono hw1.size)).mono (by simp)⟩)))); refine hK _ ?_; clear hK K; try simp only [Act.put, List.setIfInBounds_toArray, List.set_cons_zero, List.set_cons_succ])
              refine wpQuiet_nil ?_
              intro wc hb_wc
              have hc_wc := (bcell hb_wc).1
              have hf_wc := (bcell hb_wc).2
              have hz_wc_0 : wb.heap.size < wc.heap.size := by have h_ := hb_wc.size; (try simp at h_); omega
              have hz_wc_1 : wb.heap.size + 1 < wc.heap.size := by have h_ := hb_wc.size; (try simp at h_); omega
              have hz_wc_0 : w.heap.size < wc.heap.size := by have h_ := hb_wc.size; (try simp at h_); omega
              go_wp2
              rw [rounds_succ]
              go_wp2
              refine wp_region_below (by kernel_rfl) (by kernel_rfl) ?_
              repeat first | go_big_quiet_skip | (go_big_quiet_want; go_big_quiet_op; go_big_quiet_on) | (go_big_quiet_want; rename_i K hK; apply quiet_mk; (focus (intro w1 hw1; have hc1 := (bcell hw1).1; have hf1 := (bcell hw1).2; go_simp; first | done | rfl | (first | (go_at_call 47; (refine (RB.out _ (Below.on hb_wc hw1)).mono ?_); rintro e w2 ⟨rfl, hb2⟩; exact ⟨rfl, (hw1.trans (hb2.mono hw1.size)).mono (by simp)⟩) | (go_at_call 15; (refine (CB.out _ (Below.on hb_wc hw1)).mono ?_); rintro e w2 ⟨rfl, hb2⟩; exact ⟨rfl, (hw1.trans (hb2.mono hw1.size)).mono (by simp)⟩) | (go_at_call 39; (refine (sameB (NB.out _ (Below.on hb_wc hw1))).mono ?_); rintro e w2 ⟨rfl, hb2⟩; exact ⟨rfl, (hw1.trans (hb2.mono hw1.size)).mono (by simp)⟩)))); refine hK _ ?_; clear hK K; try simp only [Act.put, List.setIfInBounds_toArray, List.set_cons_zero, List.set_cons_succ])
              refine wpQuiet_nil ?_
              intro wd hb_wd
              have hc_wd := (bcell hb_wd).1
              have hf_wd := (bcell hb_wd).2
              have hz_wd_0 : wb.heap.size < wd.heap.size := by have h_ := hb_wd.size; (try simp at h_); omega
              have hz_wd_1 : wb.heap.size + 1 < wd.heap.size := by have h_ := hb_wd.size; (try simp at h_); omega
              have hz_wd_0 : w.heap.size < wd.heap.size := by have h_ := hb_wd.size; (try simp at h_); omega
              have hB2 := Lib.hid (Below.on hb_wc hb_wd)
              go_wp2
              rw [rounds_succ]
              go_wp2_with fail
              refine (RA.out wd hB2.out).mono ?_
              rintro e we ⟨rfl, hb_we⟩
              have hc_we := (bcell hb_we).1
              have hf_we := (bcell hb_we).2
              have hB3 := Lib.hid (Below.on hB2.out hb_we)
              go_wp2_with fail
              refine (RB.out we hB3.out).mono ?_
              rintro e wf ⟨rfl, hb_wf⟩
              go_wp2
              go_ret
              exact ⟨by simp, hBE.out.trans ((Below.on hB3.out hb_wf).mono (by omega))⟩
          · have d1 : decide (c.f + 1 ≤ (cardB s0 : Int)) = false := decide_eq_false m1
            by_cases m2 : c.f + 1 ≤ (cardB s1 : Int)
            · have d2 : decide (c.f + 1 ≤ (cardB s1 : Int)) = true := decide_eq_true m2
              rw [d1] at RA
              rw [d2] at RB
              replace RA := Lib.hid RA
              replace RB := Lib.hid RB
              have ew_ : IntKind.i64.wrap (c.f + 1) = c.f + 1 := by simp only [IntKind.wrap, IntKind.signed, IntKind.bits]; simp; omega
              go_wp2
              refine wp_loop_rounds 3 ?_
              rw [rounds_succ]
              go_wp2
              refine wp_region_below (by kernel_rfl) (by kernel_rfl) ?_
              repeat first | go_big_quiet_skip | (go_big_quiet_want; go_big_quiet_op; go_big_quiet_on) | (go_big_quiet_want; rename_i K hK; apply quiet_mk; (focus (intro w1 hw1; have hc1 := (bcell hw1).1; have hf1 := (bcell hw1).2; go_simp; first | done | rfl | (first | (go_at_call 47; (refine (RA.out _ hw1).mono ?_); rintro e w2 ⟨rfl, hb2⟩; exact ⟨rfl, (hw1.trans (hb2.mono hw1.size)).mono (by simp)⟩) | (go_at_call 15; (refine (CA.out _ hw1).mono ?_); rintro e w2 ⟨rfl, hb2⟩; exact ⟨rfl, (hw1.trans (hb2.mono hw1.size)).mono (by simp)⟩) | (go_at_call 39; (refine (sameB (NA.out _ hw1)).mono ?_); rintro e w2 ⟨rfl, hb2⟩; exact ⟨rfl, (hw1.trans (hb2.mono hw1.size)).mono (by simp)⟩)))); refine hK _ ?_; clear hK K; try simp only [Act.put, List.setIfInBounds_toArray, List.set_cons_zero, List.set_cons_succ])
              refine wpQuiet_nil ?_
              intro wc hb_wc
              have hc_wc := (bcell hb_wc).1
              have hf_wc := (bcell hb_wc).2
              have hz_wc_0 : wb.heap.size < wc.heap.size := by have h_ := hb_wc.size; (try simp at h_); omega
              have hz_wc_1 : wb.heap.size + 1 < wc.heap.size := by have h_ := hb_wc.size; (try simp at h_); omega
              have hz_wc_0 : w.heap.size < wc.heap.size := by have h_ := hb_wc.size; (try simp at h_); omega
              go_wp2
              rw [rounds_succ]
              go_wp2
              refine wp_region_below (by kernel_rfl) (by kernel_rfl) ?_
              repeat first | go_big_quiet_skip | (go_big_quiet_want; go_big_quiet_op; go_big_quiet_on) | (go_big_quiet_want; rename_i K hK; apply quiet_mk; (focus (intro w1 hw1; have hc1 := (bcell hw1).1; have hf1 := (bcell hw1).2; go_simp; first | done | rfl | (first | (go_at_call 47; (refine (RB.out _ (Below.on hb_wc hw1)).mono ?_); rintro e w2 ⟨rfl, hb2⟩; exact ⟨rfl, (hw1.trans (hb2.mono hw1.size)).mono (by simp)⟩) | (go_at_call 15; (refine (CB.out _ (Below.on hb_wc hw1)).mono ?_); rintro e w2 ⟨rfl, hb2⟩; exact ⟨rfl, (hw1.trans (hb2.mono hw1.size)).mono (by simp)⟩) | (go_at_call 39; (refine (sameB (NB.out _ (Below.on hb_wc hw1))).mono ?_); rintro e w2 ⟨rfl, hb2⟩; exact ⟨rfl, (hw1.trans (hb2.mono hw1.size)).mono (by simp)⟩)))); refine hK _ ?_; clear hK K; try simp only [Act.put, List.setIfInBounds_toArray, List.set_cons_zero, List.set_cons_succ])
              refine wpQuiet_nil ?_
              intro wd hb_wd
              have hc_wd := (bcell hb_wd).1
              have hf_wd := (bcell hb_wd).2
              have hz_wd_0 : wb.heap.size < wd.heap.size := by have h_ := hb_wd.size; (try simp at h_); omega
              have hz_wd_1 : wb.heap.size + 1 < wd.heap.size := by have h_ := hb_wd.size; (try simp at h_); omega
              have hz_wd_0 : w.heap.size < wd.heap.size := by have h_ := hb_wd.size; (try simp at h_); omega
              have hB2 := Lib.hid (Below.on hb_wc hb_wd)
              go_wp2
              rw [rounds_succ]
              go_wp2_with fail
              refine (RA.out wd hB2.out).mono ?_
              rintro e we ⟨rfl, hb_we⟩
              go_wp2
              go_ret
              exact ⟨by simp, hBE.out.trans ((Below.on hB2.out hb_we).mono (by omega))⟩
            · have d2 : decide (c.f + 1 ≤ (cardB s1 : Int)) = false := decide_eq_false m2
              rw [d1] at RA
              rw [d2] at RB
              replace RA := Lib.hid RA
              replace RB := Lib.hid RB
              have ew_ : IntKind.i64.wrap (c.f + 1) = c.f + 1 := by simp only [IntKind.wrap, IntKind.signed, IntKind.bits]; simp; omega
              go_wp2
              refine wp_loop_rounds 3 ?_
              rw [rounds_succ]
              go_wp2
              refine wp_region_below (by kernel_rfl) (by kernel_rfl) ?_
              repeat first | go_big_quiet_skip | (go_big_quiet_want; go_big_quiet_op; go_big_quiet_on) | (go_big_quiet_want; rename_i K hK; apply quiet_mk; (focus (intro w1 hw1; have hc1 := (bcell hw1).1; have hf1 := (bcell hw1).2; go_simp; first | done | rfl | (first | (go_at_call 47; (refine (RA.out _ hw1).mono ?_); rintro e w2 ⟨rfl, hb2⟩; exact ⟨rfl, (hw1.trans (hb2.mono hw1.size)).mono (by simp)⟩) | (go_at_call 15; (refine (CA.out _ hw1).mono ?_); rintro e w2 ⟨rfl, hb2⟩; exact ⟨rfl, (hw1.trans (hb2.mono hw1.size)).mono (by simp)⟩) | (go_at_call 39; (refine (sameB (NA.out _ hw1)).mono ?_); rintro e w2 ⟨rfl, hb2⟩; exact ⟨rfl, (hw1.trans (hb2.mono hw1.size)).mono (by simp)⟩)))); refine hK _ ?_; clear hK K; try simp only [Act.put, List.setIfInBounds_toArray, List.set_cons_zero, List.set_cons_succ])
              refine wpQuiet_nil ?_
              intro wc hb_wc
              have hc_wc := (bcell hb_wc).1
              have hf_wc := (bcell hb_wc).2
              have hz_wc_0 : wb.heap.size < wc.heap.size := by have h_ := hb_wc.size; (try simp at h_); omega
              have hz_wc_1 : wb.heap.size + 1 < wc.heap.size := by have h_ := hb_wc.size; (try simp at h_); omega
              have hz_wc_0 : w.heap.size < wc.heap.size := by have h_ := hb_wc.size; (try simp at h_); omega
              go_wp2
              rw [rounds_succ]
              go_wp2
              refine wp_region_below (by kernel_rfl) (by kernel_rfl) ?_
              repeat first | go_big_quiet_skip | (go_big_quiet_want; go_big_quiet_op; go_big_quiet_on) | (go_big_quiet_want; rename_i K hK; apply quiet_mk; (focus (intro w1 hw1; have hc1 := (bcell hw1).1; have hf1 := (bcell hw1).2; go_simp; first | done | rfl | (first | (go_at_call 47; (refine (RB.out _ (Below.on hb_wc hw1)).mono ?_); rintro e w2 ⟨rfl, hb2⟩; exact ⟨rfl, (hw1.trans (hb2.mono hw1.size)).mono (by simp)⟩) | (go_at_call 15; (refine (CB.out _ (Below.on hb_wc hw1)).mono ?_); rintro e w2 ⟨rfl, hb2⟩; exact ⟨rfl, (hw1.trans (hb2.mono hw1.size)).mono (by simp)⟩) | (go_at_call 39; (refine (sameB (NB.out _ (Below.on hb_wc hw1))).mono ?_); rintro e w2 ⟨rfl, hb2⟩; exact ⟨rfl, (hw1.trans (hb2.mono hw1.size)).mono (by simp)⟩)))); refine hK _ ?_; clear hK K; try simp only [Act.put, List.setIfInBounds_toArray, List.set_cons_zero, List.set_cons_succ])
              refine wpQuiet_nil ?_
              intro wd hb_wd
              have hc_wd := (bcell hb_wd).1
              have hf_wd := (bcell hb_wd).2
              have hz_wd_0 : wb.heap.size < wd.heap.size := by have h_ := hb_wd.size; (try simp at h_); omega
              have hz_wd_1 : wb.heap.size + 1 < wd.heap.size := by have h_ := hb_wd.size; (try simp at h_); omega
              have hz_wd_0 : w.heap.size < wd.heap.size := by have h_ := hb_wd.size; (try simp at h_); omega
              have hB2 := Lib.hid (Below.on hb_wc hb_wd)
              go_wp2
              rw [rounds_succ]
              go_wp2_with fail
              refine (RA.out wd hB2.out).mono ?_
              rintro e we ⟨rfl, hb_we⟩
              go_wp2
              go_ret
              exact ⟨by simp, hBE.out.trans ((Below.on hB2.out hb_we).mono (by omega))⟩
      ·
        have TL_ : Hid (TalAt wr tb gb mb) := Lib.hid (h1.out.but hbut.out (by omega) (by omega))
        have GL_ : Hid (GrpAt wr gb c (2 * c.f + 1)) := Lib.hid (h3.out.but hbut.out (by omega) (by omega))
        have TT_ : Hid (Tab wr) := Lib.hid (h4.out.but hbut.out (by have h_ := HT.out.1; omega) (by have h_ := HT.out.1; omega))
        obtain ⟨t1, t2, t3, t4⟩ := hst.out
        have kk0 : wr.cell? ⟨wb.heap.size + 1, 0, none⟩ = some (.int .u64 a) := (hbut.out.cell (a := ⟨wb.heap.size + 1, 0, none⟩) (by simp; omega) (by simp; omega) (by simp)).trans h10
        have kk1 : wr.cell? ⟨wb.heap.size + 1, 1, none⟩ = some (.int .u64 b) := (hbut.out.cell (a := ⟨wb.heap.size + 1, 1, none⟩) (by simp; omega) (by simp; omega) (by simp)).trans h11
        have kf : wr.cell? ⟨w.heap.size, 0, none⟩ = some (.int .i64 c.f) := (hbut.out.cell (a := ⟨w.heap.size, 0, none⟩) (by simp; omega) (by simp; omega) (by simp; omega)).trans h5
        have RA : ∀ w1, Below wr.heap.size wr w1 → Calls Tryd.prog 47 #[.pointer (some ⟨tb, 0, none⟩), .int .u64 a] w1 fun e w' => e = .returned (.bool (decide (c.f + 1 ≤ (cardB s0 : Int)))) ∧ Below w1.heap.size w1 w' := fun w1 hw => by
          have h_ := treached_at tb gb mb c f n a wa_.out w1 (TL_.out.below TL_.out.lt hw) (hm.out.below hm.out.lt hw) (GL_.out.below GL_.out.lt hw) f1 f2 (TT_.out.below (Nat.le_refl _) hw)
          rw [t1, t3.card f1 f2] at h_
          exact h_
        have RB : ∀ w1, Below wr.heap.size wr w1 → Calls Tryd.prog 47 #[.pointer (some ⟨tb, 0, none⟩), .int .u64 b] w1 fun e w' => e = .returned (.bool (decide (c.f + 1 ≤ (cardB s1 : Int)))) ∧ Below w1.heap.size w1 w' := fun w1 hw => by
          have h_ := treached_at tb gb mb c f n b wb_.out w1 (TL_.out.below TL_.out.lt hw) (hm.out.below hm.out.lt hw) (GL_.out.below GL_.out.lt hw) f1 f2 (TT_.out.below (Nat.le_refl _) hw)
          rw [t2, t4.card f1 f2] at h_
          exact h_
        have NA : ∀ w1, Below wr.heap.size wr w1 → Calls Tryd.prog 39 #[.pointer (some ⟨tb, 0, none⟩), .int .u64 a] w1 fun e w' => e = .returned (.int .u32 (s0 : Nat)) ∧ w1 = w' := fun w1 hw => by
          have h_ := tnodes_at tb gb mb f n a wa_.out w1 (TL_.out.below TL_.out.lt hw) (hm.out.below hm.out.lt hw)
          rw [t1] at h_
          exact h_
        have NB : ∀ w1, Below wr.heap.size wr w1 → Calls Tryd.prog 39 #[.pointer (some ⟨tb, 0, none⟩), .int .u64 b] w1 fun e w' => e = .returned (.int .u32 (s1 : Nat)) ∧ w1 = w' := fun w1 hw => by
          have h_ := tnodes_at tb gb mb f n b wb_.out w1 (TL_.out.below TL_.out.lt hw) (hm.out.below hm.out.lt hw)
          rw [t2] at h_
          exact h_
        have CA := fun w1 (hw : Below wr.heap.size wr w1) => count_any s0 w1 t3.1 (TT_.out.below (Nat.le_refl _) hw)
        have CB := fun w1 (hw : Below wr.heap.size wr w1) => count_any s1 w1 t4.1 (TT_.out.below (Nat.le_refl _) hw)
        have XC := fun w1 (hw : Below wr.heap.size wr w1) => cross_any s0 s1 w1 t3.1 t4.1 (TT_.out.below (Nat.le_refl _) hw)
        have hBE : Hid (Below w.heap.size w wr) := Lib.hid (hB0.out.trans (hbut.out.below (by omega) (by omega) hB0.out.size))
        replace NA := Lib.hid NA
        replace NB := Lib.hid NB
        replace CA := Lib.hid CA
        replace CB := Lib.hid CB
        replace XC := Lib.hid XC
        have u1 : wb.heap.size < wr.heap.size := by omega
        have u2 : wb.heap.size + 1 < wr.heap.size := by omega
        have u3 : w.heap.size < wr.heap.size := by omega
        have mp := fun (ha : majB c s0 = true) (hb : majB c s1 = true) => meet_pure c s0 s1 f1 f2 ha hb
        rw [t3.and, t4.and, t3.card f1 f2, t4.card f1 f2] at mp
        have l0 := t3.1
        have l1 := t4.1
        replace mp := Lib.hid mp
        clear t1 t2 t3 t4 TL_ GL_ TT_ h5 h6 h7 h8 h9 h10 h11 hsz
        by_cases m1 : c.f + 1 ≤ (cardB s0 : Int)
        · have d1 : decide (c.f + 1 ≤ (cardB s0 : Int)) = true := decide_eq_true m1
          by_cases m2 : c.f + 1 ≤ (cardB s1 : Int)
          · have d2 : decide (c.f + 1 ≤ (cardB s1 : Int)) = true := decide_eq_true m2
            obtain ⟨x, x1, x2, x3, x4⟩ := mp.out d1 d2
            replace x1 := Lib.hid x1
            rw [d1] at RA
            rw [d2] at RB
            replace RA := Lib.hid RA
            replace RB := Lib.hid RB
            have ew_ : IntKind.i64.wrap (c.f + 1) = c.f + 1 := by simp only [IntKind.wrap, IntKind.signed, IntKind.bits]; simp; omega
            go_wp2
            refine wp_loop_rounds 3 ?_
            rw [rounds_succ]
            go_wp2
            refine wp_region_below (by kernel_rfl) (by kernel_rfl) ?_
            repeat first | go_big_quiet_skip | (go_big_quiet_want; go_big_quiet_op; go_big_quiet_on) | (go_big_quiet_want; rename_i K hK; apply quiet_mk; (focus (intro w1 hw1; have hc1 := (bcell hw1).1; have hf1 := (bcell hw1).2; go_simp; first | done | rfl | (first | (go_at_call 47; (refine (RA.out _ hw1).mono ?_); rintro e w2 ⟨rfl, hb2⟩; exact ⟨rfl, (hw1.trans (hb2.mono hw1.size)).mono (by simp)⟩) | (go_at_call 15; (refine (CA.out _ hw1).mono ?_); rintro e w2 ⟨rfl, hb2⟩; exact ⟨rfl, (hw1.trans (hb2.mono hw1.size)).mono (by simp)⟩) | (go_at_call 39; (refine (sameB (NA.out _ hw1)).mono ?_); rintro e w2 ⟨rfl, hb2⟩; exact ⟨rfl, (hw1.trans (hb2.mono hw1.size)).mono (by simp)⟩)))); refine hK _ ?_; clear hK K; try simp only [Act.put, List.setIfInBounds_toArray, List.set_cons_zero, List.set_cons_succ])
            refine wpQuiet_nil ?_
            intro wc hb_wc
            have hc_wc := (bcell hb_wc).1
            have hf_wc := (bcell hb_wc).2
            have hz_wc_0 : wb.heap.size < wc.heap.size := by have h_ := hb_wc.size; (try simp at h_); omega
            have hz_wc_1 : wb.heap.size + 1 < wc.heap.size := by have h_ := hb_wc.size; (try simp at h_); omega
            have hz_wc_0 : w.heap.size < wc.heap.size := by have h_ := hb_wc.size; (try simp at h_); omega
            go_wp2
            rw [rounds_succ]
            go_wp2
            refine wp_region_below (by kernel_rfl) (by kernel_rfl) ?_
            repeat first | go_big_quiet_skip | (go_big_quiet_want; go_big_quiet_op; go_big_quiet_on) | (go_big_quiet_want; rename_i K hK; apply quiet_mk; (focus (intro w1 hw1; have hc1 := (bcell hw1).1; have hf1 := (bcell hw1).2; go_simp; first | done | rfl | (first | (go_at_call 47; (refine (RB.out _ (Below.on hb_wc hw1)).mono ?_); rintro e w2 ⟨rfl, hb2⟩; exact ⟨rfl, (hw1.trans (hb2.mono hw1.size)).mono (by simp)⟩) | (go_at_call 15; (refine (CB.out _ (Below.on hb_wc hw1)).mono ?_); rintro e w2 ⟨rfl, hb2⟩; exact ⟨rfl, (hw1.trans (hb2.mono hw1.size)).mono (by simp)⟩) | (go_at_call 39; (refine (sameB (NB.out _ (Below.on hb_wc hw1))).mono ?_); rintro e w2 ⟨rfl, hb2⟩; exact ⟨rfl, (hw1.trans (hb2.mono hw1.size)).mono (by simp)⟩)))); refine hK _ ?_; clear hK K; try simp only [Act.put, List.setIfInBounds_toArray, List.set_cons_zero, List.set_cons_succ])
            refine wpQuiet_nil ?_
            intro wd hb_wd
            have hc_wd := (bcell hb_wd).1
            have hf_wd := (bcell hb_wd).2
            have hz_wd_0 : wb.heap.size < wd.heap.size := by have h_ := hb_wd.size; (try simp at h_); omega
            have hz_wd_1 : wb.heap.size + 1 < wd.heap.size := by have h_ := hb_wd.size; (try simp at h_); omega
            have hz_wd_0 : w.heap.size < wd.heap.size := by have h_ := hb_wd.size; (try simp at h_); omega
            have hB2 := Lib.hid (Below.on hb_wc hb_wd)
            go_wp2
            rw [rounds_succ]
            go_wp2_with fail
            refine (RA.out wd hB2.out).mono ?_
            rintro e we ⟨rfl, hb_we⟩
            have hc_we := (bcell hb_we).1
            have hf_we := (bcell hb_we).2
            have hz_we_0 : wb.heap.size < we.heap.size := by have h_ := hb_we.size; (try simp at h_); omega
            have hz_we_1 : wb.heap.size + 1 < we.heap.size := by have h_ := hb_we.size; (try simp at h_); omega
            have hB3 := Lib.hid (Below.on hB2.out hb_we)
            go_wp2_with fail
            refine (RB.out we hB3.out).mono ?_
            rintro e wf ⟨rfl, hb_wf⟩
            have hc_wf := (bcell hb_wf).1
            have hf_wf := (bcell hb_wf).2
            have hz_wf_0 : wb.heap.size < wf.heap.size := by have h_ := hb_wf.size; (try simp at h_); omega
            have hz_wf_1 : wb.heap.size + 1 < wf.heap.size := by have h_ := hb_wf.size; (try simp at h_); omega
            have hB4 := Lib.hid (Below.on hB3.out hb_wf)
            go_wp2_with fail
            refine (NA.out wf hB4.out).mono ?_
            rintro e w1 ⟨rfl, rfl⟩
            go_wp2_with fail
            refine (NB.out wf hB4.out).mono ?_
            rintro e w1 ⟨rfl, rfl⟩
            go_wp2_with fail
            refine (XC.out wf hB4.out).mono ?_
            rintro e wg ⟨rfl, hb_wg⟩
            rw [x1.out]
            have hc_wg := (bcell hb_wg).1
            have hf_wg := (bcell hb_wg).2
            have hz_wg_0 : wb.heap.size < wg.heap.size := by have h_ := hb_wg.size; (try simp at h_); omega
            have hz_wg_1 : wb.heap.size + 1 < wg.heap.size := by have h_ := hb_wg.size; (try simp at h_); omega
            have A1 := has_any s0 x wg l0
            have A2 := has_any s1 x wg l1
            rw [x3] at A1
            rw [x4] at A2
            replace A1 := Lib.hid A1
            replace A2 := Lib.hid A2
            clear x3 x4
            go_wp2_with fail
            refine A1.out.mono ?_
            rintro e w1 ⟨rfl, rfl⟩
            go_wp2_with fail
            refine A2.out.mono ?_
            rintro e w1 ⟨rfl, rfl⟩
            go_wp2
            go_ret
            exact ⟨by simp, hBE.out.trans ((Below.on hB4.out hb_wg).mono (by omega))⟩
          · have d2 : decide (c.f + 1 ≤ (cardB s1 : Int)) = false := decide_eq_false m2
            rw [d1] at RA
            rw [d2] at RB
            replace RA := Lib.hid RA
            replace RB := Lib.hid RB
            have ew_ : IntKind.i64.wrap (c.f + 1) = c.f + 1 := by simp only [IntKind.wrap, IntKind.signed, IntKind.bits]; simp; omega
            go_wp2
            refine wp_loop_rounds 3 ?_
            rw [rounds_succ]
            go_wp2
            refine wp_region_below (by kernel_rfl) (by kernel_rfl) ?_
            repeat first | go_big_quiet_skip | (go_big_quiet_want; go_big_quiet_op; go_big_quiet_on) | (go_big_quiet_want; rename_i K hK; apply quiet_mk; (focus (intro w1 hw1; have hc1 := (bcell hw1).1; have hf1 := (bcell hw1).2; go_simp; first | done | rfl | (first | (go_at_call 47; (refine (RA.out _ hw1).mono ?_); rintro e w2 ⟨rfl, hb2⟩; exact ⟨rfl, (hw1.trans (hb2.mono hw1.size)).mono (by simp)⟩) | (go_at_call 15; (refine (CA.out _ hw1).mono ?_); rintro e w2 ⟨rfl, hb2⟩; exact ⟨rfl, (hw1.trans (hb2.mono hw1.size)).mono (by simp)⟩) | (go_at_call 39; (refine (sameB (NA.out _ hw1)).mono ?_); rintro e w2 ⟨rfl, hb2⟩; exact ⟨rfl, (hw1.trans (hb2.mono hw1.size)).mono (by simp)⟩)))); refine hK _ ?_; clear hK K; try simp only [Act.put, List.setIfInBounds_toArray, List.set_cons_zero, List.set_cons_succ])
            refine wpQuiet_nil ?_
            intro wc hb_wc
            have hc_wc := (bcell hb_wc).1
            have hf_wc := (bcell hb_wc).2
            have hz_wc_0 : wb.heap.size < wc.heap.size := by have h_ := hb_wc.size; (try simp at h_); omega
            have hz_wc_1 : wb.heap.size + 1 < wc.heap.size := by have h_ := hb_wc.size; (try simp at h_); omega
            have hz_wc_0 : w.heap.size < wc.heap.size := by have h_ := hb_wc.size; (try simp at h_); omega
            go_wp2
            rw [rounds_succ]
            go_wp2
            refine wp_region_below (by kernel_rfl) (by kernel_rfl) ?_
            repeat first | go_big_quiet_skip | (go_big_quiet_want; go_big_quiet_op; go_big_quiet_on) | (go_big_quiet_want; rename_i K hK; apply quiet_mk; (focus (intro w1 hw1; have hc1 := (bcell hw1).1; have hf1 := (bcell hw1).2; go_simp; first | done | rfl | (first | (go_at_call 47; (refine (RB.out _ (Below.on hb_wc hw1)).mono ?_); rintro e w2 ⟨rfl, hb2⟩; exact ⟨rfl, (hw1.trans (hb2.mono hw1.size)).mono (by simp)⟩) | (go_at_call 15; (refine (CB.out _ (Below.on hb_wc hw1)).mono ?_); rintro e w2 ⟨rfl, hb2⟩; exact ⟨rfl, (hw1.trans (hb2.mono hw1.size)).mono (by simp)⟩) | (go_at_call 39; (refine (sameB (NB.out _ (Below.on hb_wc hw1))).mono ?_); rintro e w2 ⟨rfl, hb2⟩; exact ⟨rfl, (hw1.trans (hb2.mono hw1.size)).mono (by simp)⟩)))); refine hK _ ?_; clear hK K; try simp only [Act.put, List.setIfInBounds_toArray, List.set_cons_zero, List.set_cons_succ])
            refine wpQuiet_nil ?_
            intro wd hb_wd
            have hc_wd := (bcell hb_wd).1
            have hf_wd := (bcell hb_wd).2
            have hz_wd_0 : wb.heap.size < wd.heap.size := by have h_ := hb_wd.size; (try simp at h_); omega
            have hz_wd_1 : wb.heap.size + 1 < wd.heap.size := by have h_ := hb_wd.size; (try simp at h_); omega
            have hz_wd_0 : w.heap.size < wd.heap.size := by have h_ := hb_wd.size; (try simp at h_); omega
            have hB2 := Lib.hid (Below.on hb_wc hb_wd)
            go_wp2
            rw [rounds_succ]
            go_wp2_with fail
            refine (RA.out wd hB2.out).mono ?_
            rintro e we ⟨rfl, hb_we⟩
            have hc_we := (bcell hb_we).1
            have hf_we := (bcell hb_we).2
            have hB3 := Lib.hid (Below.on hB2.out hb_we)
            go_wp2_with fail
            refine (RB.out we hB3.out).mono ?_
            rintro e wf ⟨rfl, hb_wf⟩
            go_wp2
            go_ret
            exact ⟨by simp, hBE.out.trans ((Below.on hB3.out hb_wf).mono (by omega))⟩
        · have d1 : decide (c.f + 1 ≤ (cardB s0 : Int)) = false := decide_eq_false m1
          by_cases m2 : c.f + 1 ≤ (cardB s1 : Int)
          · have d2 : decide (c.f + 1 ≤ (cardB s1 : Int)) = true := decide_eq_true m2
            rw [d1] at RA
            rw [d2] at RB
            replace RA := Lib.hid RA
            replace RB := Lib.hid RB
            have ew_ : IntKind.i64.wrap (c.f + 1) = c.f + 1 := by simp only [IntKind.wrap, IntKind.signed, IntKind.bits]; simp; omega
            go_wp2
            refine wp_loop_rounds 3 ?_
            rw [rounds_succ]
            go_wp2
            refine wp_region_below (by kernel_rfl) (by kernel_rfl) ?_
            repeat first | go_big_quiet_skip | (go_big_quiet_want; go_big_quiet_op; go_big_quiet_on) | (go_big_quiet_want; rename_i K hK; apply quiet_mk; (focus (intro w1 hw1; have hc1 := (bcell hw1).1; have hf1 := (bcell hw1).2; go_simp; first | done | rfl | (first | (go_at_call 47; (refine (RA.out _ hw1).mono ?_); rintro e w2 ⟨rfl, hb2⟩; exact ⟨rfl, (hw1.trans (hb2.mono hw1.size)).mono (by simp)⟩) | (go_at_call 15; (refine (CA.out _ hw1).mono ?_); rintro e w2 ⟨rfl, hb2⟩; exact ⟨rfl, (hw1.trans (hb2.mono hw1.size)).mono (by simp)⟩) | (go_at_call 39; (refine (sameB (NA.out _ hw1)).mono ?_); rintro e w2 ⟨rfl, hb2⟩; exact ⟨rfl, (hw1.trans (hb2.mono hw1.size)).mono (by simp)⟩)))); refine hK _ ?_; clear hK K; try simp only [Act.put, List.setIfInBounds_toArray, List.set_cons_zero, List.set_cons_succ])
            refine wpQuiet_nil ?_
            intro wc hb_wc
            have hc_wc := (bcell hb_wc).1
            have hf_wc := (bcell hb_wc).2
            have hz_wc_0 : wb.heap.size < wc.heap.size := by have h_ := hb_wc.size; (try simp at h_); omega
            have hz_wc_1 : wb.heap.size + 1 < wc.heap.size := by have h_ := hb_wc.size; (try simp at h_); omega
            have hz_wc_0 : w.heap.size < wc.heap.size := by have h_ := hb_wc.size; (try simp at h_); omega
            go_wp2
            rw [rounds_succ]
            go_wp2
            refine wp_region_below (by kernel_rfl) (by kernel_rfl) ?_
            repeat first | go_big_quiet_skip | (go_big_quiet_want; go_big_quiet_op; go_big_quiet_on) | (go_big_quiet_want; rename_i K hK; apply quiet_mk; (focus (intro w1 hw1; have hc1 := (bcell hw1).1; have hf1 := (bcell hw1).2; go_simp; first | done | rfl | (first | (go_at_call 47; (refine (RB.out _ (Below.on hb_wc hw1)).mono ?_); rintro e w2 ⟨rfl, hb2⟩; exact ⟨rfl, (hw1.trans (hb2.mono hw1.size)).mono (by simp)⟩) | (go_at_call 15; (refine (CB.out _ (Below.on hb_wc hw1)).mono ?_); rintro e w2 ⟨rfl, hb2⟩; exact ⟨rfl, (hw1.trans (hb2.mono hw1.size)).mono (by simp)⟩) | (go_at_call 39; (refine (sameB (NB.out _ (Below.on hb_wc hw1))).mono ?_); rintro e w2 ⟨rfl, hb2⟩; exact ⟨rfl, (hw1.trans (hb2.mono hw1.size)).mono (by simp)⟩)))); refine hK _ ?_; clear hK K; try simp only [Act.put, List.setIfInBounds_toArray, List.set_cons_zero, List.set_cons_succ])
            refine wpQuiet_nil ?_
            intro wd hb_wd
            have hc_wd := (bcell hb_wd).1
            have hf_wd := (bcell hb_wd).2
            have hz_wd_0 : wb.heap.size < wd.heap.size := by have h_ := hb_wd.size; (try simp at h_); omega
            have hz_wd_1 : wb.heap.size + 1 < wd.heap.size := by have h_ := hb_wd.size; (try simp at h_); omega
            have hz_wd_0 : w.heap.size < wd.heap.size := by have h_ := hb_wd.size; (try simp at h_); omega
            have hB2 := Lib.hid (Below.on hb_wc hb_wd)
            go_wp2
            rw [rounds_succ]
            go_wp2_with fail
            refine (RA.out wd hB2.out).mono ?_
            rintro e we ⟨rfl, hb_we⟩
            go_wp2
            go_ret
            exact ⟨by simp, hBE.out.trans ((Below.on hB2.out hb_we).mono (by omega))⟩
          · have d2 : decide (c.f + 1 ≤ (cardB s1 : Int)) = false := decide_eq_false m2
            rw [d1] at RA
            rw [d2] at RB
            replace RA := Lib.hid RA
            replace RB := Lib.hid RB
            have ew_ : IntKind.i64.wrap (c.f + 1) = c.f + 1 := by simp only [IntKind.wrap, IntKind.signed, IntKind.bits]; simp; omega
            go_wp2
            refine wp_loop_rounds 3 ?_
            rw [rounds_succ]
            go_wp2
            refine wp_region_below (by kernel_rfl) (by kernel_rfl) ?_
            repeat first | go_big_quiet_skip | (go_big_quiet_want; go_big_quiet_op; go_big_quiet_on) | (go_big_quiet_want; rename_i K hK; apply quiet_mk; (focus (intro w1 hw1; have hc1 := (bcell hw1).1; have hf1 := (bcell hw1).2; go_simp; first | done | rfl | (first | (go_at_call 47; (refine (RA.out _ hw1).mono ?_); rintro e w2 ⟨rfl, hb2⟩; exact ⟨rfl, (hw1.trans (hb2.mono hw1.size)).mono (by simp)⟩) | (go_at_call 15; (refine (CA.out _ hw1).mono ?_); rintro e w2 ⟨rfl, hb2⟩; exact ⟨rfl, (hw1.trans (hb2.mono hw1.size)).mono (by simp)⟩) | (go_at_call 39; (refine (sameB (NA.out _ hw1)).mono ?_); rintro e w2 ⟨rfl, hb2⟩; exact ⟨rfl, (hw1.trans (hb2.mono hw1.size)).mono (by simp)⟩)))); refine hK _ ?_; clear hK K; try simp only [Act.put, List.setIfInBounds_toArray, List.set_cons_zero, List.set_cons_succ])
            refine wpQuiet_nil ?_
            intro wc hb_wc
            have hc_wc := (bcell hb_wc).1
            have hf_wc := (bcell hb_wc).2
            have hz_wc_0 : wb.heap.size < wc.heap.size := by have h_ := hb_wc.size; (try simp at h_); omega
            have hz_wc_1 : wb.heap.size + 1 < wc.heap.size := by have h_ := hb_wc.size; (try simp at h_); omega
            have hz_wc_0 : w.heap.size < wc.heap.size := by have h_ := hb_wc.size; (try simp at h_); omega
            go_wp2
            rw [rounds_succ]
            go_wp2
            refine wp_region_below (by kernel_rfl) (by kernel_rfl) ?_
            repeat first | go_big_quiet_skip | (go_big_quiet_want; go_big_quiet_op; go_big_quiet_on) | (go_big_quiet_want; rename_i K hK; apply quiet_mk; (focus (intro w1 hw1; have hc1 := (bcell hw1).1; have hf1 := (bcell hw1).2; go_simp; first | done | rfl | (first | (go_at_call 47; (refine (RB.out _ (Below.on hb_wc hw1)).mono ?_); rintro e w2 ⟨rfl, hb2⟩; exact ⟨rfl, (hw1.trans (hb2.mono hw1.size)).mono (by simp)⟩) | (go_at_call 15; (refine (CB.out _ (Below.on hb_wc hw1)).mono ?_); rintro e w2 ⟨rfl, hb2⟩; exact ⟨rfl, (hw1.trans (hb2.mono hw1.size)).mono (by simp)⟩) | (go_at_call 39; (refine (sameB (NB.out _ (Below.on hb_wc hw1))).mono ?_); rintro e w2 ⟨rfl, hb2⟩; exact ⟨rfl, (hw1.trans (hb2.mono hw1.size)).mono (by simp)⟩)))); refine hK _ ?_; clear hK K; try simp only [Act.put, List.setIfInBounds_toArray, List.set_cons_zero, List.set_cons_succ])
            refine wpQuiet_nil ?_
            intro wd hb_wd
            have hc_wd := (bcell hb_wd).1
            have hf_wd := (bcell hb_wd).2
            have hz_wd_0 : wb.heap.size < wd.heap.size := by have h_ := hb_wd.size; (try simp at h_); omega
            have hz_wd_1 : wb.heap.size + 1 < wd.heap.size := by have h_ := hb_wd.size; (try simp at h_); omega
            have hz_wd_0 : w.heap.size < wd.heap.size := by have h_ := hb_wd.size; (try simp at h_); omega
            have hB2 := Lib.hid (Below.on hb_wc hb_wd)
            go_wp2
            rw [rounds_succ]
            go_wp2_with fail
            refine (RA.out wd hB2.out).mono ?_
            rintro e we ⟨rfl, hb_we⟩
            go_wp2
            go_ret
            exact ⟨by simp, hBE.out.trans ((Below.on hB2.out hb_we).mono (by omega))⟩
  · have hc_wa := (bcell hb_wa).1
    have hf_wa := (bcell hb_wa).2
    go_wp2
    go_ret
    exact ⟨by simp, (by repeat (first | with_reducible refine Below.drew ?_ | with_reducible refine below_drewN ?_ | with_reducible refine Below.alloc_ ?_ _ | with_reducible refine Below.setCell ?_ (by first | (simp; done) | (simp; omega)) _ | with_reducible exact Below.refl _ _ | with_reducible exact hb_wa | with_reducible refine Below.on ?_ hb_wa ))⟩
theorem speakers_law (a0 a1 a2 a3 a4 a5 a6 a7 a8 a9 : Int) (sv : Value) (a b : Int) (w : World) (h0 : (Lit.int .i64 a0).wf = true) (h1 : (Lit.int .i64 a1).wf = true) (h2 : (Lit.int .u64 a2).wf = true) (h3 : (Lit.int .u64 a3).wf = true) (h4 : (Lit.int .u64 a4).wf = true) (h5 : (Lit.int .u64 a5).wf = true) (h6 : (Lit.int .u64 a6).wf = true) (h7 : (Lit.int .u64 a7).wf = true) (h8 : (Lit.int .u64 a8).wf = true) (h9 : (Lit.int .u64 a9).wf = true) (hsv : (Sh.slice (wordSh)).Holds w [sv]) (ha : (Lit.int .u64 a).wf = true) (hb : (Lit.int .u64 b).wf = true) (hT : Tab w) :
    Calls Tryd.prog 7 #[.agg #[.int .i64 a0, .int .i64 a1, .int .u64 a2, .int .u64 a3, .int .u64 a4, .int .u64 a5, .int .u64 a6, .int .u64 a7, .int .u64 a8, .int .u64 a9], sv, .int .u64 a, .int .u64 b] w fun e w' => e = .returned (.bool true) ∧ Below w.heap.size w w' :=
  speakers_walk ⟨a0, a1, a2, a3, a4, a5, a6, a7, a8, a9⟩ sv a b w ⟨(wf_i64 h0).1, (wf_i64 h0).2, (wf_i64 h1).1, (wf_i64 h1).2, (wf_u64 h2).1, (wf_u64 h3).1, (wf_u64 h4).1, (wf_u64 h5).1, (wf_u64 h6).1, (wf_u64 h7).1, (wf_u64 h8).1, (wf_u64 h9).1⟩ hT hsv ha hb
end Go.Proofs.YtehmbcpgendkjaaDoor
