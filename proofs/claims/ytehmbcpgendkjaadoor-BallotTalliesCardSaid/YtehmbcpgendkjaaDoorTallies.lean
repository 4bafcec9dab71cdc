import Derived.Test.YtehmbcpgendkjaaDoorTalAny
import Derived.Test.YtehmbcpgendkjaaDoorGroups
import Derived.LoopN
namespace Go.Proofs.YtehmbcpgendkjaaDoor
open Go.RowKit Go.Maps
set_option linter.unusedSimpArgs false
set_option linter.unusedVariables false
set_option maxRecDepth 100000 in
set_option maxHeartbeats 6400000 in
theorem tallies_walk (c : Cfg) (sv : Value) (w : World) (ok : c.Ok) (hT : Tab w) (hsv : (Sh.slice wordSh).Holds w [sv]) :
    Calls Tryd.prog 6 #[.agg #[.int .i64 c.f, .int .i64 c.mb, .int .u64 c.dl, .int .u64 c.wd, .int .u64 c.ev, .int .u64 c.bt, .int .u64 c.ep, .int .u64 c.em, .int .u64 c.mn, .int .u64 c.ms], sv] w fun e w' => e = .returned (.bool true) ∧ Below w.heap.size w w' := by
  obtain ⟨sp, ws, cap, rfl, hlen, hscr⟩ := script_open hsv
  unfold maxLen at hlen
  have HT := Lib.hid hT
  have HS := Lib.hid hscr
  clear hsv hscr hT
  go_enter Tryd.func6, Tryd.ntmps6
  go_wp2_with fail
  refine (groups_any c _ ok).mono ?_
  rintro e wa (⟨hb, gb, d, rfl, hlb, hg, hr, hb_wa⟩ | ⟨hb, rfl, hb_wa⟩)
  · obtain ⟨⟨f1, f2⟩, _⟩ := Cfg.valid hb
    replace hb := Lib.hid hb
    have HG := Lib.hid hg
    have HR := Lib.hid hr
    have hc_wa := (bcell hb_wa).1
    have hf_wa := (bcell hb_wa).2
    have hz_wa_0 : w.heap.size < wa.heap.size := by have h_ := hb_wa.size; (try simp at h_); omega
    go_wp2_with fail
    refine (tnew_at gb c _ hg f1).mono ?_
    rintro e wb ⟨tb, mb, rfl, ht, hm, hmb, htb, hne, hb_wb⟩
    have hc_wb := (bcell hb_wb).1
    have hf_wb := (bcell hb_wb).2
    have hg' := hg.below hg.lt hb_wb
    replace ht := Lib.hid ht
    replace hm := Lib.hid hm
    clear hg hr
    go_wp2_with fail
    refine (bnew_at gb c _ hg' f1).mono ?_
    rintro e wc ⟨ub, nb, rfl, hu, hn, hnb, hub, hne2, hb_wc⟩
    have hc_wc := (bcell hb_wc).1
    have hf_wc := (bcell hb_wc).2
    replace hu := Lib.hid hu
    replace hn := Lib.hid hn
    replace hg' := Lib.hid hg'
    go_wp2_with fail
    refine (notally_at none _ (.inl rfl)).mono ?_
    rintro e wd ⟨rfl, hb_wd⟩
    have hc_wd := (bcell hb_wd).1
    have hf_wd := (bcell hb_wd).2
    go_wp2_with fail
    refine (notally_at (some ⟨wd.heap.size, 0, none⟩) _ (.inr ⟨_, rfl, by simp⟩)).mono ?_
    rintro e we ⟨rfl, hb_we⟩
    have hc_we := (bcell hb_we).1
    have hf_we := (bcell hb_we).2
    go_wp2_with fail
    refine (tnew_not (some ⟨we.heap.size, 0, none⟩) _ (.inr ⟨_, rfl, by simp, by simp⟩)).mono ?_
    rintro e wf ⟨rfl, rfl⟩
    go_wp2_with fail
    have z0 := HT.out.1
    have z1 : w.heap.size + 1 ≤ gb := by simpa using hlb
    have z2 := HG.out.lt
    have z3 := HR.out.lt
    have z4 := ht.out.lt
    have z5 := hm.out.lt
    have z6 := hu.out.lt
    have z7 := hn.out.lt
    have z8 := hb_wd.size
    have z9 : wd.heap.size + 1 ≤ we.heap.size := by simpa using hb_we.size
    have z10 : w.heap.size + 1 ≤ wa.heap.size := by simpa using hb_wa.size
    have z11 := hb_wb.size
    have z12 := hb_wc.size
    have I : Ids w.heap.size (we.heap.size + 3) gb d tb mb ub nb (we.heap.size + 1) (we.heap.size + 1 + 1) := by
      refine ⟨z0, ⟨by omega, by omega⟩, ⟨by omega, by omega⟩, ⟨by omega, by omega⟩, ⟨by omega, by omega⟩, ⟨by omega, by omega⟩, ⟨by omega, by omega⟩, ⟨by omega, by omega⟩, ⟨by omega, by omega⟩, ?_, ?_, ?_, ?_⟩
      · refine ⟨by omega, by omega, hne, by omega, by omega, by omega, by omega⟩
      · refine ⟨by omega, by omega, by omega, hne2, by omega, by omega⟩
      · refine ⟨by omega, by omega, by omega, by omega, by omega⟩
      · refine ⟨by omega, by omega, by omega, by omega⟩
    have hB0 : w.heap.size ≤ we.heap.size + 3 := by omega
    replace I := Lib.hid I
    replace hB0 := Lib.hid hB0
    refine wp_gen (fun W => StE W c (we.heap.size + 3) gb d tb mb ub nb (we.heap.size + 1) (we.heap.size + 1 + 1) ∧ Below w.heap.size w W) ?_ ?_
    · refine ⟨⟨none, 0, [], none, 0, [], ?_⟩, (by repeat (first | with_reducible refine Below.drew ?_ | with_reducible refine below_drewN ?_ | with_reducible refine Below.alloc_ ?_ _ | with_reducible refine Below.setCell ?_ (by first | (simp; done) | (simp; omega)) _ | with_reducible exact Below.refl _ _ | with_reducible exact hb_wa | with_reducible refine Below.on ?_ hb_wa | with_reducible exact hb_wb | with_reducible refine Below.on ?_ hb_wb | with_reducible exact hb_wc | with_reducible refine Below.on ?_ hb_wc | with_reducible exact hb_wd | with_reducible refine Below.on ?_ hb_wd | with_reducible exact hb_we | with_reducible refine Below.on ?_ hb_we ))⟩
      exact
        { gg := hg'.out.below hg'.out.lt (by repeat (first | with_reducible refine Below.drew ?_ | with_reducible refine below_drewN ?_ | with_reducible refine Below.alloc_ ?_ _ | with_reducible refine Below.setCell ?_ (by first | (simp; done) | (simp; omega)) _ | with_reducible exact Below.refl _ _ | with_reducible exact hb_wc | with_reducible refine Below.on ?_ hb_wc | with_reducible exact hb_wd | with_reducible refine Below.on ?_ hb_wd | with_reducible exact hb_we | with_reducible refine Below.on ?_ hb_we ))
          hh := HR.out.below HR.out.lt (by repeat (first | with_reducible refine Below.drew ?_ | with_reducible refine below_drewN ?_ | with_reducible refine Below.alloc_ ?_ _ | with_reducible refine Below.setCell ?_ (by first | (simp; done) | (simp; omega)) _ | with_reducible exact Below.refl _ _ | with_reducible exact hb_wb | with_reducible refine Below.on ?_ hb_wb | with_reducible exact hb_wc | with_reducible refine Below.on ?_ hb_wc | with_reducible exact hb_wd | with_reducible refine Below.on ?_ hb_wd | with_reducible exact hb_we | with_reducible refine Below.on ?_ hb_we ))
          tab := HT.out.below (Nat.le_refl _) (by repeat (first | with_reducible refine Below.drew ?_ | with_reducible refine below_drewN ?_ | with_reducible refine Below.alloc_ ?_ _ | with_reducible refine Below.setCell ?_ (by first | (simp; done) | (simp; omega)) _ | with_reducible exact Below.refl _ _ | with_reducible exact hb_wa | with_reducible refine Below.on ?_ hb_wa | with_reducible exact hb_wb | with_reducible refine Below.on ?_ hb_wb | with_reducible exact hb_wc | with_reducible refine Below.on ?_ hb_wc | with_reducible exact hb_wd | with_reducible refine Below.on ?_ hb_wd | with_reducible exact hb_we | with_reducible refine Below.on ?_ hb_we ))
          t := ht.out.below ht.out.lt (by repeat (first | with_reducible refine Below.drew ?_ | with_reducible refine below_drewN ?_ | with_reducible refine Below.alloc_ ?_ _ | with_reducible refine Below.setCell ?_ (by first | (simp; done) | (simp; omega)) _ | with_reducible exact Below.refl _ _ | with_reducible exact hb_wc | with_reducible refine Below.on ?_ hb_wc | with_reducible exact hb_wd | with_reducible refine Below.on ?_ hb_wd | with_reducible exact hb_we | with_reducible refine Below.on ?_ hb_we ))
          m := hm.out.below hm.out.lt (by repeat (first | with_reducible refine Below.drew ?_ | with_reducible refine below_drewN ?_ | with_reducible refine Below.alloc_ ?_ _ | with_reducible refine Below.setCell ?_ (by first | (simp; done) | (simp; omega)) _ | with_reducible exact Below.refl _ _ | with_reducible exact hb_wc | with_reducible refine Below.on ?_ hb_wc | with_reducible exact hb_wd | with_reducible refine Below.on ?_ hb_wd | with_reducible exact hb_we | with_reducible refine Below.on ?_ hb_we ))
          u := hu.out.below hu.out.lt (by repeat (first | with_reducible refine Below.drew ?_ | with_reducible refine below_drewN ?_ | with_reducible refine Below.alloc_ ?_ _ | with_reducible refine Below.setCell ?_ (by first | (simp; done) | (simp; omega)) _ | with_reducible exact Below.refl _ _ | with_reducible exact hb_wd | with_reducible refine Below.on ?_ hb_wd | with_reducible exact hb_we | with_reducible refine Below.on ?_ hb_we ))
          n := hn.out.below hn.out.lt (by repeat (first | with_reducible refine Below.drew ?_ | with_reducible refine below_drewN ?_ | with_reducible refine Below.alloc_ ?_ _ | with_reducible refine Below.setCell ?_ (by first | (simp; done) | (simp; omega)) _ | with_reducible exact Below.refl _ _ | with_reducible exact hb_wd | with_reducible refine Below.on ?_ hb_wd | with_reducible exact hb_we | with_reducible refine Below.on ?_ hb_we ))
          r := ⟨by simp, by omega, by go_simp, by go_simp, by go_simp, World.ownsRow_nil _ _ _ _⟩
          s := ⟨by simp, by omega, by go_simp, by go_simp, by go_simp, World.ownsRow_nil _ _ _ _⟩
          n1 := by simp [NodK]
          n2 := by simp [NodK]
          l1 := by simp
          l2 := by simp
          f1 := fun key => by show 0 < 4294967296; decide
          f2 := fun key => by show 0 < 4294967296; decide
          ap := fun g h => by simp at h
          bB := by simp }
    rintro W0 ⟨h1, hB⟩
    replace h1 := Lib.hid h1
    replace hB := Lib.hid hB
    clear hc_wa hf_wa hc_wb hf_wb hc_wc hf_wc hc_wd hf_wd hc_we hf_we hb_wa hb_wb hb_wc hb_wd hb_we HG HR hg' ht hm hu hn ok z0 z1 z2 z3 z4 z5 z6 z7 z8 z9 z10 z11 z12 hmb htb hne hnb hub hne2 hlb
    go_wp2
    go_loopw [12] (fun i wr => ∃ k : Nat, i = .int .i64 k ∧ k ≤ ws.length ∧ k ≤ 2000 ∧ StE wr c (we.heap.size + 3) gb d tb mb ub nb (we.heap.size + 1) (we.heap.size + 1 + 1) ∧ Below w.heap.size w wr) (fun i _ => 2000 - (intOf i).toNat)
    case atStart => exact ⟨0, rfl, by omega, by omega, h1.out, hB.out⟩
    case round =>
      obtain ⟨k, rfl, hk1, hk2, hst, hbr⟩ := hrel
      replace hst := Lib.hid hst
      replace hbr := Lib.hid hbr
      by_cases hlt : k < ws.length
      · by_cases h60 : k < 2000
        · obtain ⟨b', o', rfl, e1, q0, q1, q2, q3, q4, v0, v1, v2, v3, v4⟩ := HS.out k hlt
          obtain ⟨x, hx⟩ : ∃ x, x = ws[k] := ⟨_, rfl⟩
          rw [← hx] at q0 q1 q2 q3 q4 v0 v1 v2 v3 v4
          replace q0 := (hbr.out.cell (p := ⟨b', o' + k * 5, none⟩) e1).trans q0
          replace q1 := (hbr.out.cell (p := ⟨b', o' + k * 5 + 1, none⟩) e1).trans q1
          replace q2 := (hbr.out.cell (p := ⟨b', o' + k * 5 + 2, none⟩) e1).trans q2
          replace q3 := (hbr.out.cell (p := ⟨b', o' + k * 5 + 3, none⟩) e1).trans q3
          replace q4 := (hbr.out.cell (p := ⟨b', o' + k * 5 + 4, none⟩) e1).trans q4
          replace v1 := Lib.hid v1
          replace v2 := Lib.hid v2
          replace v3 := Lib.hid v3
          replace hx := Lib.hid hx
          clear v0 v4
          obtain ⟨x0, xn, xbn, xbd, xnd⟩ := x
          simp only at q0 q1 q2 q3 q4
          go_wp2_with fail
          refine (first_any hst.out I.out hB0.out f1 f2 x0 xn xbn xbd xnd v1.out).mono ?_
          rintro e w2 ⟨rfl, hS2, hb2⟩
          have t0 := (hb2.cell (p := ⟨b', o' + k * 5, none⟩) e1).trans q0
          have t1 := (hb2.cell (p := ⟨b', o' + k * 5 + 1, none⟩) e1).trans q1
          have t2 := (hb2.cell (p := ⟨b', o' + k * 5 + 2, none⟩) e1).trans q2
          have t3 := (hb2.cell (p := ⟨b', o' + k * 5 + 3, none⟩) e1).trans q3
          have t4 := (hb2.cell (p := ⟨b', o' + k * 5 + 4, none⟩) e1).trans q4
          replace hS2 := Lib.hid hS2
          replace hb2 := Lib.hid hb2
          clear q0 q1 q2 q3 q4
          go_wp2_with fail
          refine (second_any hS2.out I.out hB0.out f1 f2 x0 xn xbn xbd xnd v2.out v3.out).mono ?_
          rintro e w3 ⟨rfl, hS3, hb3⟩
          replace hS3 := Lib.hid hS3
          replace hb3 := Lib.hid hb3
          clear t0 t1 t2 t3 t4
          go_wp2
          go_roundw
          case measure => simp [intOf]; omega
          case rel => exact ⟨k + 1, by go_num, by omega, by omega, hS3.out, (hbr.out.trans hb2.out).trans hb3.out⟩
        ·
          go_wp2_with fail
          go_loopw [13] (fun i wq => ∃ k : Nat, i = .int .i64 k ∧ k ≤ ws.length ∧ k ≤ 2000 ∧ StE wq c (we.heap.size + 3) gb d tb mb ub nb (we.heap.size + 1) (we.heap.size + 1 + 1) ∧ Below w.heap.size w wq) (fun i _ => 2000 - (intOf i).toNat)
          case atStart => exact ⟨0, rfl, by omega, by omega, hst.out, hbr.out⟩
          case round =>
            obtain ⟨k', rfl, hk1', hk2', hst', hbr'⟩ := hrel
            have h0w := Nat.le_trans (Nat.le_refl _) hbr'.size
            replace hst' := Lib.hid hst'
            replace hbr' := Lib.hid hbr'
            by_cases hlt' : k' < ws.length
            · by_cases h60' : k' < 2000
              · obtain ⟨b', o', rfl, e1, q0, q1, q2, q3, q4, v0, v1, v2, v3, v4⟩ := HS.out k' hlt'
                obtain ⟨x, hx⟩ : ∃ x, x = ws[k'] := ⟨_, rfl⟩
                rw [← hx] at q0 q1 q2 q3 q4 v0 v1 v2 v3 v4
                replace q0 := (hbr'.out.cell (p := ⟨b', o' + k' * 5, none⟩) e1).trans q0
                replace q1 := (hbr'.out.cell (p := ⟨b', o' + k' * 5 + 1, none⟩) e1).trans q1
                replace q2 := (hbr'.out.cell (p := ⟨b', o' + k' * 5 + 2, none⟩) e1).trans q2
                replace q3 := (hbr'.out.cell (p := ⟨b', o' + k' * 5 + 3, none⟩) e1).trans q3
                replace q4 := (hbr'.out.cell (p := ⟨b', o' + k' * 5 + 4, none⟩) e1).trans q4
                replace v1 := Lib.hid v1
                replace v2 := Lib.hid v2
                replace v3 := Lib.hid v3
                replace hx := Lib.hid hx
                clear v0 v4
                obtain ⟨x0, xn, xbn, xbd, xnd⟩ := x
                simp only at q0 q1 q2 q3 q4
                go_wp2_with fail
                refine wp_gen (fun W => Below wr.heap.size wr W ∧ wr.heap.size < W.heap.size ∧ W.cell? ⟨wr.heap.size, 1, none⟩ = some (.int .u64 xn) ∧ W.cell? ⟨wr.heap.size, 2, none⟩ = some (.int .u64 xbn) ∧ W.cell? ⟨wr.heap.size, 3, none⟩ = some (.int .i64 xbd)) ?_ ?_
                · exact ⟨(by repeat (first | with_reducible refine Below.drew ?_ | with_reducible refine below_drewN ?_ | with_reducible refine Below.alloc_ ?_ _ | with_reducible refine Below.setCell ?_ (by first | (simp; done) | (simp; omega)) _ | with_reducible exact Below.refl _ _ )), by simp, by go_simp, by go_simp, by go_simp⟩
                rintro W ⟨hbW, sW, g1, g2, g3⟩
                obtain ⟨A1, p1, k1, A2, p2, k2, hS⟩ := hst'.out.below hbW
                have T : ∀ w1, Below W.heap.size W w1 → Calls Tryd.prog 39 #[.pointer (some ⟨tb, 0, none⟩), .int .u64 xn] w1 fun e w' => e = .returned (.int .u32 ((lookK k1 (xn, 0, 0)).getD 0 : Nat)) ∧ Below w1.heap.size w1 w' := fun w1 hb1 => by
                  have h' := hS.below hb1
                  exact sameB (tnodes_at tb gb mb (f1K k1) k1.length xn v1.out w1 h'.t h'.m)
                have R : ∀ w1, Below W.heap.size W w1 → Calls Tryd.prog 40 #[.pointer (some ⟨we.heap.size + 1, 0, none⟩), .int .u64 xn, .agg #[.int .u64 0, .int .i64 0]] w1 fun e w' => e = .returned (.int .u32 ((lookK k1 (xn, 0, 0)).getD 0 : Nat)) ∧ Below w1.heap.size w1 w' := fun w1 hb1 => by
                  have h' := hS.below hb1
                  exact rtnodes_at _ _ _ p1 A1 k1 xn 0 0 w1 h'.r hS.l1 hS.n1
                have U : ∀ w1, Below W.heap.size W w1 → Calls Tryd.prog 41 #[.pointer (some ⟨ub, 0, none⟩), .agg #[.int .u64 xbn, .int .i64 xbd]] w1 fun e w' => e = .returned (.int .u32 ((lookK k2 (0, xbn, xbd)).getD 0 : Nat)) ∧ Below w1.heap.size w1 w' := fun w1 hb1 => by
                  have h' := hS.below hb1
                  exact bnodes_at ub gb nb (f2K k2) k2.length (xbn, xbd) ⟨v2.out, v3.out⟩ w1 h'.u h'.n
                have S : ∀ w1, Below W.heap.size W w1 → Calls Tryd.prog 40 #[.pointer (some ⟨we.heap.size + 1 + 1, 0, none⟩), .int .u64 0, .agg #[.int .u64 xbn, .int .i64 xbd]] w1 fun e w' => e = .returned (.int .u32 ((lookK k2 (0, xbn, xbd)).getD 0 : Nat)) ∧ Below w1.heap.size w1 w' := fun w1 hb1 => by
                  have h' := hS.below hb1
                  exact rtnodes_at _ _ _ p2 A2 k2 0 xbn xbd w1 h'.s hS.l2 hS.n2
                generalize (lookK k1 (xn, 0, 0)).getD 0 = y1 at T R
                generalize (lookK k2 (0, xbn, xbd)).getD 0 = y2 at U S
                replace T := Lib.hid T
                replace R := Lib.hid R
                replace U := Lib.hid U
                replace S := Lib.hid S
                replace hbW := Lib.hid hbW
                clear hS q0 q1 q2 q3 q4
                refine wp_region_below (by kernel_rfl) (by kernel_rfl) ?_
                repeat first | go_big_quiet_skip | (go_big_quiet_want; go_big_quiet_op; go_big_quiet_on) | (go_big_quiet_want; rename_i K hK; apply quiet_mk; (focus (intro w1 hw1; have hc1 := (bcell hw1).1; have hf1 := (bcell hw1).2; go_simp; first | done | rfl | (first | (go_at_call 39; (refine (T.out _ hw1).mono ?_); rintro e w2 ⟨rfl, hb2⟩; exact ⟨rfl, (hw1.trans (hb2.mono hw1.size)).mono (by simp)⟩) | (go_at_call 40; (with_reducible refine (R.out _ hw1).mono ?_); rintro e w2 ⟨rfl, hb2⟩; exact ⟨rfl, (hw1.trans (hb2.mono hw1.size)).mono (by simp)⟩) | (go_at_call 41; (refine (U.out _ hw1).mono ?_); rintro e w2 ⟨rfl, hb2⟩; exact ⟨rfl, (hw1.trans (hb2.mono hw1.size)).mono (by simp)⟩) | (go_at_call 40; (with_reducible refine (S.out _ hw1).mono ?_); rintro e w2 ⟨rfl, hb2⟩; exact ⟨rfl, (hw1.trans (hb2.mono hw1.size)).mono (by simp)⟩)))); refine hK _ ?_; clear hK K; try simp only [Act.put, List.setIfInBounds_toArray, List.set_cons_zero, List.set_cons_succ])
                refine wpQuiet_nil ?_
                intro wz hb_wz
                have hc_wz := (bcell hb_wz).1
                have hf_wz := (bcell hb_wz).2
                go_wp2
                go_roundw
                case measure => simp [intOf]; omega
                case rel =>
                  have hbz := hbW.out.trans (hb_wz.mono hbW.out.size)
                  exact ⟨k' + 1, by go_num, by omega, by omega, hst'.out.below hbz, hbr'.out.trans (hbz.mono hbr'.out.size)⟩
              · skip
                obtain ⟨A1, p1, k1, A2, p2, k2, hS⟩ := hst'.out
                have LT := Lib.hid (fun w1 (hb : Below wr.heap.size wr w1) => tlen_at tb gb mb (f1K k1) k1.length w1 (hS.below hb).t (hS.below hb).m)
                have LR := Lib.hid (fun w1 (hb : Below wr.heap.size wr w1) => rtlen_at _ _ _ p1 A1 k1 w1 (hS.below hb).r)
                have LU := Lib.hid (fun w1 (hb : Below wr.heap.size wr w1) => blen_at ub gb nb (f2K k2) k2.length w1 (hS.below hb).u (hS.below hb).n)
                have LS := Lib.hid (fun w1 (hb : Below wr.heap.size wr w1) => rtlen_at _ _ _ p2 A2 k2 w1 (hS.below hb).s)
                clear hS
                go_wp2_with fail
                refine (LT.out _ (Below.refl _ _)).mono ?_
                rintro e w1 ⟨rfl, rfl⟩
                go_wp2_with fail
                refine (LR.out _ (Below.refl _ _)).mono ?_
                rintro e w1 ⟨rfl, rfl⟩
                go_wp2_with fail
                refine (LU.out _ (Below.refl _ _)).mono ?_
                rintro e w1 ⟨rfl, rfl⟩
                go_wp2_with fail
                refine (LS.out _ (Below.refl _ _)).mono ?_
                rintro e w1 ⟨rfl, rfl⟩
                go_wp2
                go_ret
                exact ⟨by simp, hbr'.out⟩
            · skip
              obtain ⟨A1, p1, k1, A2, p2, k2, hS⟩ := hst'.out
              have LT := Lib.hid (fun w1 (hb : Below wr.heap.size wr w1) => tlen_at tb gb mb (f1K k1) k1.length w1 (hS.below hb).t (hS.below hb).m)
              have LR := Lib.hid (fun w1 (hb : Below wr.heap.size wr w1) => rtlen_at _ _ _ p1 A1 k1 w1 (hS.below hb).r)
              have LU := Lib.hid (fun w1 (hb : Below wr.heap.size wr w1) => blen_at ub gb nb (f2K k2) k2.length w1 (hS.below hb).u (hS.below hb).n)
              have LS := Lib.hid (fun w1 (hb : Below wr.heap.size wr w1) => rtlen_at _ _ _ p2 A2 k2 w1 (hS.below hb).s)
              clear hS
              go_wp2_with fail
              refine (LT.out _ (Below.refl _ _)).mono ?_
              rintro e w1 ⟨rfl, rfl⟩
              go_wp2_with fail
              refine (LR.out _ (Below.refl _ _)).mono ?_
              rintro e w1 ⟨rfl, rfl⟩
              go_wp2_with fail
              refine (LU.out _ (Below.refl _ _)).mono ?_
              rintro e w1 ⟨rfl, rfl⟩
              go_wp2_with fail
              refine (LS.out _ (Below.refl _ _)).mono ?_
              rintro e w1 ⟨rfl, rfl⟩
              go_wp2
              go_ret
              exact ⟨by simp, hbr'.out⟩
      ·
        go_wp2_with fail
        go_loopw [13] (fun i wq => ∃ k : Nat, i = .int .i64 k ∧ k ≤ ws.length ∧ k ≤ 2000 ∧ StE wq c (we.heap.size + 3) gb d tb mb ub nb (we.heap.size + 1) (we.heap.size + 1 + 1) ∧ Below w.heap.size w wq) (fun i _ => 2000 - (intOf i).toNat)
        case atStart => exact ⟨0, rfl, by omega, by omega, hst.out, hbr.out⟩
        case round =>
          obtain ⟨k', rfl, hk1', hk2', hst', hbr'⟩ := hrel
          have h0w := Nat.le_trans (Nat.le_refl _) hbr'.size
          replace hst' := Lib.hid hst'
          replace hbr' := Lib.hid hbr'
          by_cases hlt' : k' < ws.length
          · by_cases h60' : k' < 2000
            · obtain ⟨b', o', rfl, e1, q0, q1, q2, q3, q4, v0, v1, v2, v3, v4⟩ := HS.out k' hlt'
              obtain ⟨x, hx⟩ : ∃ x, x = ws[k'] := ⟨_, rfl⟩
              rw [← hx] at q0 q1 q2 q3 q4 v0 v1 v2 v3 v4
              replace q0 := (hbr'.out.cell (p := ⟨b', o' + k' * 5, none⟩) e1).trans q0
              replace q1 := (hbr'.out.cell (p := ⟨b', o' + k' * 5 + 1, none⟩) e1).trans q1
              replace q2 := (hbr'.out.cell (p := ⟨b', o' + k' * 5 + 2, none⟩) e1).trans q2
              replace q3 := (hbr'.out.cell (p := ⟨b', o' + k' * 5 + 3, none⟩) e1).trans q3
              replace q4 := (hbr'.out.cell (p := ⟨b', o' + k' * 5 + 4, none⟩) e1).trans q4
              replace v1 := Lib.hid v1
              replace v2 := Lib.hid v2
              replace v3 := Lib.hid v3
              replace hx := Lib.hid hx
              clear v0 v4
              obtain ⟨x0, xn, xbn, xbd, xnd⟩ := x
              simp only at q0 q1 q2 q3 q4
              go_wp2_with fail
              refine wp_gen (fun W => Below wr.heap.size wr W ∧ wr.heap.size < W.heap.size ∧ W.cell? ⟨wr.heap.size, 1, none⟩ = some (.int .u64 xn) ∧ W.cell? ⟨wr.heap.size, 2, none⟩ = some (.int .u64 xbn) ∧ W.cell? ⟨wr.heap.size, 3, none⟩ = some (.int .i64 xbd)) ?_ ?_
              · exact ⟨(by repeat (first | with_reducible refine Below.drew ?_ | with_reducible refine below_drewN ?_ | with_reducible refine Below.alloc_ ?_ _ | with_reducible refine Below.setCell ?_ (by first | (simp; done) | (simp; omega)) _ | with_reducible exact Below.refl _ _ )), by simp, by go_simp, by go_simp, by go_simp⟩
              rintro W ⟨hbW, sW, g1, g2, g3⟩
              obtain ⟨A1, p1, k1, A2, p2, k2, hS⟩ := hst'.out.below hbW
              have T : ∀ w1, Below W.heap.size W w1 → Calls Tryd.prog 39 #[.pointer (some ⟨tb, 0, none⟩), .int .u64 xn] w1 fun e w' => e = .returned (.int .u32 ((lookK k1 (xn, 0, 0)).getD 0 : Nat)) ∧ Below w1.heap.size w1 w' := fun w1 hb1 => by
                have h' := hS.below hb1
                exact sameB (tnodes_at tb gb mb (f1K k1) k1.length xn v1.out w1 h'.t h'.m)
              have R : ∀ w1, Below W.heap.size W w1 → Calls Tryd.prog 40 #[.pointer (some ⟨we.heap.size + 1, 0, none⟩), .int .u64 xn, .agg #[.int .u64 0, .int .i64 0]] w1 fun e w' => e = .returned (.int .u32 ((lookK k1 (xn, 0, 0)).getD 0 : Nat)) ∧ Below w1.heap.size w1 w' := fun w1 hb1 => by
                have h' := hS.below hb1
                exact rtnodes_at _ _ _ p1 A1 k1 xn 0 0 w1 h'.r hS.l1 hS.n1
              have U : ∀ w1, Below W.heap.size W w1 → Calls Tryd.prog 41 #[.pointer (some ⟨ub, 0, none⟩), .agg #[.int .u64 xbn, .int .i64 xbd]] w1 fun e w' => e = .returned (.int .u32 ((lookK k2 (0, xbn, xbd)).getD 0 : Nat)) ∧ Below w1.heap.size w1 w' := fun w1 hb1 => by
                have h' := hS.below hb1
                exact bnodes_at ub gb nb (f2K k2) k2.length (xbn, xbd) ⟨v2.out, v3.out⟩ w1 h'.u h'.n
              have S : ∀ w1, Below W.heap.size W w1 → Calls Tryd.prog 40 #[.pointer (some ⟨we.heap.size + 1 + 1, 0, none⟩), .int .u64 0, .agg #[.int .u64 xbn, .int .i64 xbd]] w1 fun e w' => e = .returned (.int .u32 ((lookK k2 (0, xbn, xbd)).getD 0 : Nat)) ∧ Below w1.heap.size w1 w' := fun w1 hb1 => by
                have h' := hS.below hb1
                exact rtnodes_at _ _ _ p2 A2 k2 0 xbn xbd w1 h'.s hS.l2 hS.n2
              generalize (lookK k1 (xn, 0, 0)).getD 0 = y1 at T R
              generalize (lookK k2 (0, xbn, xbd)).getD 0 = y2 at U S
              replace T := Lib.hid T
              replace R := Lib.hid R
              replace U := Lib.hid U
              replace S := Lib.hid S
              replace hbW := Lib.hid hbW
              clear hS q0 q1 q2 q3 q4
              refine wp_region_below (by kernel_rfl) (by kernel_rfl) ?_
              repeat first | go_big_quiet_skip | (go_big_quiet_want; go_big_quiet_op; go_big_quiet_on) | (go_big_quiet_want; rename_i K hK; apply quiet_mk; (focus (intro w1 hw1; have hc1 := (bcell hw1).1; have hf1 := (bcell hw1).2; go_simp; first | done | rfl | (first | (go_at_call 39; (refine (T.out _ hw1).mono ?_); rintro e w2 ⟨rfl, hb2⟩; exact ⟨rfl, (hw1.trans (hb2.mono hw1.size)).mono (by simp)⟩) | (go_at_call 40; (with_reducible refine (R.out _ hw1).mono ?_); rintro e w2 ⟨rfl, hb2⟩; exact ⟨rfl, (hw1.trans (hb2.mono hw1.size)).mono (by simp)⟩) | (go_at_call 41; (refine (U.out _ hw1).mono ?_); rintro e w2 ⟨rfl, hb2⟩; exact ⟨rfl, (hw1.trans (hb2.mono hw1.size)).mono (by simp)⟩) | (go_at_call 40; (with_reducible refine (S.out _ hw1).mono ?_); rintro e w2 ⟨rfl, hb2⟩; exact ⟨rfl, (hw1.trans (hb2.mono hw1.size)).mono (by simp)⟩)))); refine hK _ ?_; clear hK K; try simp only [Act.put, List.setIfInBounds_toArray, List.set_cons_zero, List.set_cons_succ])
              refine wpQuiet_nil ?_
              intro wz hb_wz
              have hc_wz := (bcell hb_wz).1
              have hf_wz := (bcell hb_wz).2
              go_wp2
              go_roundw
              case measure => simp [intOf]; omega
              case rel =>
                have hbz := hbW.out.trans (hb_wz.mono hbW.out.size)
                exact ⟨k' + 1, by go_num, by omega, by omega, hst'.out.below hbz, hbr'.out.trans (hbz.mono hbr'.out.size)⟩
            · skip
              exact absurd hlt' (by omega)
          · skip
            obtain ⟨A1, p1, k1, A2, p2, k2, hS⟩ := hst'.out
            have LT := Lib.hid (fun w1 (hb : Below wr.heap.size wr w1) => tlen_at tb gb mb (f1K k1) k1.length w1 (hS.below hb).t (hS.below hb).m)
            have LR := Lib.hid (fun w1 (hb : Below wr.heap.size wr w1) => rtlen_at _ _ _ p1 A1 k1 w1 (hS.below hb).r)
            have LU := Lib.hid (fun w1 (hb : Below wr.heap.size wr w1) => blen_at ub gb nb (f2K k2) k2.length w1 (hS.below hb).u (hS.below hb).n)
            have LS := Lib.hid (fun w1 (hb : Below wr.heap.size wr w1) => rtlen_at _ _ _ p2 A2 k2 w1 (hS.below hb).s)
            clear hS
            go_wp2_with fail
            refine (LT.out _ (Below.refl _ _)).mono ?_
            rintro e w1 ⟨rfl, rfl⟩
            go_wp2_with fail
            refine (LR.out _ (Below.refl _ _)).mono ?_
            rintro e w1 ⟨rfl, rfl⟩
            go_wp2_with fail
            refine (LU.out _ (Below.refl _ _)).mono ?_
            rintro e w1 ⟨rfl, rfl⟩
            go_wp2_with fail
            refine (LS.out _ (Below.refl _ _)).mono ?_
            rintro e w1 ⟨rfl, rfl⟩
            go_wp2
            go_ret
            exact ⟨by simp, hbr'.out⟩
  · have hc_wa := (bcell hb_wa).1
    have hf_wa := (bcell hb_wa).2
    go_wp2_with fail
    refine (tnew_not none _ (.inl rfl)).mono ?_
    rintro e w1 ⟨rfl, rfl⟩
    go_wp2_with fail
    refine (bnew_not none _ (.inl rfl)).mono ?_
    rintro e w1 ⟨rfl, rfl⟩
    go_wp2_with fail
    refine (notally_at none _ (.inl rfl)).mono ?_
    rintro e wd ⟨rfl, hb_wd⟩
    have hc_wd := (bcell hb_wd).1
    have hf_wd := (bcell hb_wd).2
    go_wp2_with fail
    refine (notally_at (some ⟨wd.heap.size, 0, none⟩) _ (.inr ⟨_, rfl, by simp⟩)).mono ?_
    rintro e we ⟨rfl, hb_we⟩
    have hc_we := (bcell hb_we).1
    have hf_we := (bcell hb_we).2
    go_wp2_with fail
    refine (tnew_not (some ⟨we.heap.size, 0, none⟩) _ (.inr ⟨_, rfl, by simp, by simp⟩)).mono ?_
    rintro e wf ⟨rfl, rfl⟩
    go_wp2
    go_ret
    exact ⟨by simp, (by repeat (first | with_reducible refine Below.drew ?_ | with_reducible refine below_drewN ?_ | with_reducible refine Below.alloc_ ?_ _ | with_reducible refine Below.setCell ?_ (by first | (simp; done) | (simp; omega)) _ | with_reducible exact Below.refl _ _ | with_reducible exact hb_wa | with_reducible refine Below.on ?_ hb_wa | with_reducible exact hb_wd | with_reducible refine Below.on ?_ hb_wd | with_reducible exact hb_we | with_reducible refine Below.on ?_ hb_we ))⟩
theorem tallies_law (a0 a1 a2 a3 a4 a5 a6 a7 a8 a9 : Int) (sv : Value) (w : World) (h0 : (Lit.int .i64 a0).wf = true) (h1 : (Lit.int .i64 a1).wf = true) (h2 : (Lit.int .u64 a2).wf = true) (h3 : (Lit.int .u64 a3).wf = true) (h4 : (Lit.int .u64 a4).wf = true) (h5 : (Lit.int .u64 a5).wf = true) (h6 : (Lit.int .u64 a6).wf = true) (h7 : (Lit.int .u64 a7).wf = true) (h8 : (Lit.int .u64 a8).wf = true) (h9 : (Lit.int .u64 a9).wf = true) (hsv : (Sh.slice (wordSh)).Holds w [sv]) (hT : Tab w) :
    Calls Tryd.prog 6 #[.agg #[.int .i64 a0, .int .i64 a1, .int .u64 a2, .int .u64 a3, .int .u64 a4, .int .u64 a5, .int .u64 a6, .int .u64 a7, .int .u64 a8, .int .u64 a9], sv] w fun e w' => e = .returned (.bool true) ∧ Below w.heap.size w w' :=
  tallies_walk ⟨a0, a1, a2, a3, a4, a5, a6, a7, a8, a9⟩ sv w ⟨(wf_i64 h0).1, (wf_i64 h0).2, (wf_i64 h1).1, (wf_i64 h1).2, (wf_u64 h2).1, (wf_u64 h3).1, (wf_u64 h4).1, (wf_u64 h5).1, (wf_u64 h6).1, (wf_u64 h7).1, (wf_u64 h8).1, (wf_u64 h9).1⟩ hT hsv
end Go.Proofs.YtehmbcpgendkjaaDoor
