import Derived.Test.YtehmbcpgendkjaaDoorRSpk
namespace Go.Proofs.YtehmbcpgendkjaaDoor
open Go.RowKit Go.Maps
set_option linter.unusedSimpArgs false
set_option linter.unusedVariables false
theorem dropK_take (ks : List RK) (key : KK) (k : Nat) (h : k < ks.length) : dropK (ks.take (k + 1)) key = dropK (ks.take k) key ++ (if ks[k].1 = key then [] else [ks[k]]) := by
  rw [List.take_succ_eq_append_getElem h, drop_append]
  congr 1
theorem below_grown {w w' : World} {B : Nat} {row : Option Nat} (h : w.grownBy w' row) (hr : ∀ g, row = some g → B ≤ g) (hB : B ≤ w.heap.size) : Below B w w' :=
  ⟨h.os, h.tape, h.output, h.size, fun k hk => h.block k (by omega) (fun e => by have := hr k e.symm; omega)⟩
theorem own_below {w w' : World} {B n : Nat} {v : Value} {xs : List Value} (hb : Below w.heap.size w w') (h : w.ownsRow B 114 4 v n xs) : w'.ownsRow B 114 4 v n xs := by
  obtain ⟨hl, h | ⟨g, c, cur, hv, hB, hh, hn, hm, hs, ht⟩⟩ := h
  · exact ⟨hl, .inl h⟩
  · refine ⟨hl, .inr ⟨g, c, cur, hv, hB, (hb.block g ?_).trans hh, hn, hm, hs, ht⟩⟩
    by_cases hlt : g < w.heap.size
    · exact hlt
    · rw [Array.getElem?_eq_none (by omega)] at hh; simp at hh
theorem own_mono {w : World} {B B' n : Nat} {v : Value} {xs : List Value} (h : w.ownsRow B' 114 4 v n xs) (hb : B ≤ B') : w.ownsRow B 114 4 v n xs :=
  ⟨h.1, h.2.imp id (fun ⟨g, c, cur, h1, h2, h3⟩ => ⟨g, c, cur, h1, Nat.le_trans hb h2, h3⟩)⟩
theorem key_list {w : World} {ops : Array Oper} {rest : List Oper} {o : Oper} {a : Act} {Q : Exit → Act → World → Prop} (hgd : o.guard = none) (s x : Operand)
    (ho : o.op = .call { callee := .builtin .append, args := #[s, x], argTypes := #[64, 64] }) (B cap : Nat) (A : Option Addr) (ks : List RK) (y : RK) (hs : a.eval s = .slice A ks.length cap) (hown : w.ownsRow B 114 4 (.slice A ks.length cap) ks.length (flatK ks))
    (ad : Addr) (hx : a.eval x = .slice (some ad) 1 1) (hnews : ∀ j u, (cellsK y)[j]? = some u → w.cell? (ad.add j) = some u) (hlen : ks.length ≤ 64) (hB : B ≤ w.heap.size)
    (h : ∀ g cap' w', w'.ownsRow B 114 4 (.slice (some ⟨g, 0, none⟩) (ks ++ [y]).length cap') (ks ++ [y]).length (flatK (ks ++ [y])) → Below B w w' → wpList Tryd.prog ops Q rest (a.put o.dst (.slice (some ⟨g, 0, none⟩) (ks ++ [y]).length cap')) w') :
    wpList Tryd.prog ops Q (o :: rest) a w := by
  obtain ⟨i, hi, hz0, hz1, hz2⟩ := info_parts keyInfo
  refine wpList_append_own_at w hgd s x 64 ho B 114 i _ 4 32 Tryd.underlying64 hi hz0 hz1 hz2 rfl (by omega) _ ks.length (flatK ks) hs hown ad 1 1 (cellsK y) hx rfl hnews (by intro u hu; simp [cellsK] at hu; rcases hu with rfl | rfl | rfl | rfl <;> rfl) (by unfold maxLen; omega) (by omega) hB ?_
  intro v' w' h2 h3 h4 h5
  obtain ⟨g, cap', rfl, hBg, hlt⟩ := h2.form (by omega)
  have hl : (ks ++ [y]).length = ks.length + 1 := by simp
  have hf : flatK (ks ++ [y]) = flatK ks ++ cellsK y := by rw [flatK_append]; simp [flatK]
  have h_ := h g cap' w' (by rw [hl, hf]; exact h2) (below_grown h3 (fun g h => (hown.lt g h).1) hB)
  rw [hl] at h_
  exact h_
set_option maxRecDepth 100000 in
set_option maxHeartbeats 1600000 in
theorem rtdrop_at (rb hb B cap : Nat) (A : Option Addr) (ks : List RK) (n bn bd : Int) (w : World) (h : RTal w rb hb B A cap ks) (hlen : ks.length ≤ 64) (hB : B ≤ w.heap.size) :
    Calls Tryd.prog 57 #[.pointer (some ⟨rb, 0, none⟩), .int .u64 n, .agg #[.int .u64 bn, .int .i64 bd]] w fun e w' => (∃ v, e = .returned v) ∧
      ∃ A' cap', RTal w' rb hb B A' cap' (dropK ks (n, bn, bd)) ∧ (A' = none ∨ ∃ g, A' = some ⟨g, 0, none⟩ ∧ w.heap.size ≤ g) ∧ But2 w w' rb rb := by
  have c1 := h.l
  have lt := h.lt
  have low := h.low
  have HK := Lib.hid h.keys
  have H := Lib.hid h
  clear h
  go_enter Tryd.func57, Tryd.ntmps57
  go_wp2
  go_loopw [6, 7] (fun l i wr => ∃ (k : Nat) (A' : Option Addr) (c' : Nat) (ks' : List RK), i = .int .i64 k ∧ l = .slice A' ks'.length c' ∧ k ≤ ks.length ∧ ks' = dropK (ks.take k) (n, bn, bd) ∧ wr.ownsRow (w.heap.size + 1) 114 4 (.slice A' ks'.length c') ks'.length (flatK ks') ∧ Below (w.heap.size + 1) (w.alloc (.cells #[.int .u64 bn, .int .i64 bd] 49)) wr) (fun l i _ => 64 - (intOf i).toNat)
  case atStart => exact ⟨0, none, 0, [], rfl, rfl, by omega, rfl, World.ownsRow_nil _ _ _ _, by simpa using Below.refl _ _⟩
  case round =>
    obtain ⟨k, A', c', ks', rfl, rfl, hk1, hks', ho, hB'⟩ := hrel
    have hw0 : Below w.heap.size w wr := (below_alloc w _).trans (hB'.mono (by omega))
    have k1 : wr.cell? ⟨rb, 1, none⟩ = some (.slice A ks.length cap) := (hw0.cell (p := ⟨rb, 1, none⟩) lt).trans c1
    have b0 : wr.cell? ⟨w.heap.size, 0, none⟩ = some (.int .u64 bn) := (hB'.cell (p := ⟨w.heap.size, 0, none⟩) (by simp)).trans (by simp)
    have b1 : wr.cell? ⟨w.heap.size, 1, none⟩ = some (.int .i64 bd) := (hB'.cell (p := ⟨w.heap.size, 1, none⟩) (by simp)).trans (by simp)
    have hsz : w.heap.size + 1 ≤ wr.heap.size := by simpa using hB'.size
    have s1 : rb < wr.heap.size := by omega
    have s2 : w.heap.size < wr.heap.size := by omega
    have hlk : ks'.length ≤ 64 := by
      have h_ := len_drop_le (ks.take k) (n, bn, bd)
      rw [← hks', List.length_take] at h_
      omega
    replace ho := Lib.hid ho
    replace hks' := Lib.hid hks'
    replace hB' := Lib.hid hB'
    by_cases hlt : k < ks.length
    · obtain ⟨g, rfl, hg, hBg, e1, e2, e3, e4⟩ := HK.out k hlt
      obtain ⟨x, hx⟩ : ∃ x, x = ks[k] := ⟨_, rfl⟩
      rw [← hx] at e1 e2 e3 e4
      obtain ⟨⟨xn, xbn, xbd⟩, xf⟩ := x
      simp only at e1 e2 e3 e4
      replace e1 := (hw0.cell (p := ⟨g, k * 4, none⟩) hg).trans e1
      replace e2 := (hw0.cell (p := ⟨g, k * 4 + 1, none⟩) hg).trans e2
      replace e3 := (hw0.cell (p := ⟨g, k * 4 + 2, none⟩) hg).trans e3
      replace e4 := (hw0.cell (p := ⟨g, k * 4 + 3, none⟩) hg).trans e4
      have s3 : g < wr.heap.size := by omega
      replace hx := Lib.hid hx
      clear c1
      by_cases hN : xn = n
      · subst hN
        by_cases hE : xbn = bn
        · subst hE
          by_cases hD : xbd = bd
          · subst hD
            go_wp2_with fail
            refine wp_region_below (by kernel_rfl) (by kernel_rfl) ?_
            repeat first | go_big_quiet_skip | (go_big_quiet_want; go_big_quiet_op; go_big_quiet_on) | (go_big_quiet_want; rename_i K hK; apply quiet_mk; (focus (intro w1 hw1; have hc1 := (bcell hw1).1; have hf1 := (bcell hw1).2; go_simp; first | done | rfl | (fail))); refine hK _ ?_; clear hK K; try simp only [Act.put, List.setIfInBounds_toArray, List.set_cons_zero, List.set_cons_succ])
            refine wpQuiet_nil ?_
            intro wa hb_wa
            have hc_wa := (bcell hb_wa).1
            have hf_wa := (bcell hb_wa).2
            go_wp2
            go_roundw
            case measure => simp [intOf]; omega
            case rel => exact ⟨k + 1, A', c', ks', by go_num, rfl, by omega, by rw [dropK_take ks _ k hlt, ← hx.out, if_pos rfl, List.append_nil, ← hks'.out], own_below hb_wa ho.out, hB'.out.trans (hb_wa.mono (by omega))⟩
          · skip
            have hne : ((xn, xbn, xbd) : KK) ≠ (xn, xbn, bd) := by intro e; injection e with e1 e2; injection e2 with e2 e3; exact hD e3
            go_wp2_with fail
            refine wp_region_below (by kernel_rfl) (by kernel_rfl) ?_
            repeat first | go_big_quiet_skip | (go_big_quiet_want; go_big_quiet_op; go_big_quiet_on) | (go_big_quiet_want; rename_i K hK; apply quiet_mk; (focus (intro w1 hw1; have hc1 := (bcell hw1).1; have hf1 := (bcell hw1).2; go_simp; first | done | rfl | (fail))); refine hK _ ?_; clear hK K; try simp only [Act.put, List.setIfInBounds_toArray, List.set_cons_zero, List.set_cons_succ])
            refine wpQuiet_nil ?_
            intro wa hb_wa
            have hc_wa := (bcell hb_wa).1
            have hf_wa := (bcell hb_wa).2
            have hw1 := hw0.trans (hb_wa.mono hw0.size)
            have hsz_ := hb_wa.size
            have how := Lib.hid (own_below hb_wa ho.out)
            have hsw : w.heap.size + 1 ≤ wa.heap.size := by omega
            clear hw1
            go_wp2_with (at_builtin; go_loud (refine key_list rfl _ _ rfl (w.heap.size + 1) c' A' ks' ((xn, xbn, xbd), xf) rfl (how.out.alloc _) _ rfl (World.news_of_block (cs := #[.int .u64 xn, .int .u64 xbn, .int .i64 xbd, .int .u32 xf]) (t := 114) (fr := (0, 0)) (heap_alloc_new wa _)) hlk (by simp; omega) ?_))
            intro g' c'' w3 ho3 hg3
            replace ho3 := Lib.hid ho3
            have hg4 := Lib.hid ((below_alloc wa _).mono hsw |>.trans hg3)
            clear hg3
            go_wp2
            go_roundw
            case measure => simp [intOf]; omega
            case rel => exact ⟨k + 1, some ⟨g', 0, none⟩, c'', ks' ++ [((xn, xbn, xbd), xf)], by go_num, by simp, by omega, by rw [dropK_take ks _ k hlt, ← hx.out, if_neg hne, ← hks'.out], by simpa using ho3.out, (hB'.out.trans (hb_wa.mono (by omega))).trans hg4.out⟩
        · skip
          have hne : ((xn, xbn, xbd) : KK) ≠ (xn, bn, bd) := by intro e; injection e with e1 e2; injection e2 with e2 e3; exact hE e2
          go_wp2_with fail
          refine wp_region_below (by kernel_rfl) (by kernel_rfl) ?_
          repeat first | go_big_quiet_skip | (go_big_quiet_want; go_big_quiet_op; go_big_quiet_on) | (go_big_quiet_want; rename_i K hK; apply quiet_mk; (focus (intro w1 hw1; have hc1 := (bcell hw1).1; have hf1 := (bcell hw1).2; go_simp; first | done | rfl | (fail))); refine hK _ ?_; clear hK K; try simp only [Act.put, List.setIfInBounds_toArray, List.set_cons_zero, List.set_cons_succ])
          refine wpQuiet_nil ?_
          intro wa hb_wa
          have hc_wa := (bcell hb_wa).1
          have hf_wa := (bcell hb_wa).2
          have hw1 := hw0.trans (hb_wa.mono hw0.size)
          have hsz_ := hb_wa.size
          have how := Lib.hid (own_below hb_wa ho.out)
          have hsw : w.heap.size + 1 ≤ wa.heap.size := by omega
          clear hw1
          go_wp2_with (at_builtin; go_loud (refine key_list rfl _ _ rfl (w.heap.size + 1) c' A' ks' ((xn, xbn, xbd), xf) rfl (how.out.alloc _) _ rfl (World.news_of_block (cs := #[.int .u64 xn, .int .u64 xbn, .int .i64 xbd, .int .u32 xf]) (t := 114) (fr := (0, 0)) (heap_alloc_new wa _)) hlk (by simp; omega) ?_))
          intro g' c'' w3 ho3 hg3
          replace ho3 := Lib.hid ho3
          have hg4 := Lib.hid ((below_alloc wa _).mono hsw |>.trans hg3)
          clear hg3
          go_wp2
          go_roundw
          case measure => simp [intOf]; omega
          case rel => exact ⟨k + 1, some ⟨g', 0, none⟩, c'', ks' ++ [((xn, xbn, xbd), xf)], by go_num, by simp, by omega, by rw [dropK_take ks _ k hlt, ← hx.out, if_neg hne, ← hks'.out], by simpa using ho3.out, (hB'.out.trans (hb_wa.mono (by omega))).trans hg4.out⟩
      · skip
        have hne : ((xn, xbn, xbd) : KK) ≠ (n, bn, bd) := by intro e; injection e with e1 e2; injection e2 with e2 e3; exact hN e1
        have hq : (xn == n) = false := beq_eq_false_iff_ne.mpr hN
        have hq' : (xn != n) = true := bne_iff_ne.mpr hN
        have hq2 : decide (xn = n) = false := decide_eq_false hN
        go_wp2_with fail
        refine wp_region_below (by kernel_rfl) (by kernel_rfl) ?_
        repeat first | go_big_quiet_skip | (go_big_quiet_want; go_big_quiet_op; go_big_quiet_on) | (go_big_quiet_want; rename_i K hK; apply quiet_mk; (focus (intro w1 hw1; have hc1 := (bcell hw1).1; have hf1 := (bcell hw1).2; go_simp; first | done | rfl | (fail))); refine hK _ ?_; clear hK K; try simp only [Act.put, List.setIfInBounds_toArray, List.set_cons_zero, List.set_cons_succ])
        refine wpQuiet_nil ?_
        intro wa hb_wa
        have hc_wa := (bcell hb_wa).1
        have hf_wa := (bcell hb_wa).2
        have hw1 := hw0.trans (hb_wa.mono hw0.size)
        have hsz_ := hb_wa.size
        have how := Lib.hid (own_below hb_wa ho.out)
        have hsw : w.heap.size + 1 ≤ wa.heap.size := by omega
        clear hw1
        go_wp2_with (at_builtin; go_loud (refine key_list rfl _ _ rfl (w.heap.size + 1) c' A' ks' ((xn, xbn, xbd), xf) rfl (how.out.alloc _) _ rfl (World.news_of_block (cs := #[.int .u64 xn, .int .u64 xbn, .int .i64 xbd, .int .u32 xf]) (t := 114) (fr := (0, 0)) (heap_alloc_new wa _)) hlk (by simp; omega) ?_))
        intro g' c'' w3 ho3 hg3
        replace ho3 := Lib.hid ho3
        have hg4 := Lib.hid ((below_alloc wa _).mono hsw |>.trans hg3)
        clear hg3
        go_wp2
        go_roundw
        case measure => simp [intOf]; omega
        case rel => exact ⟨k + 1, some ⟨g', 0, none⟩, c'', ks' ++ [((xn, xbn, xbd), xf)], by go_num, by simp, by omega, by rw [dropK_take ks _ k hlt, ← hx.out, if_neg hne, ← hks'.out], by simpa using ho3.out, (hB'.out.trans (hb_wa.mono (by omega))).trans hg4.out⟩
    · obtain rfl : k = ks.length := by omega
      have hfr : wr.frozen? ⟨rb, 1, none⟩ = false := (World.frozen?_of_block (hw0.block rb lt)).trans H.out.fr
      go_wp2
      go_end0
      have hk_ : ks' = dropK ks (n, bn, bd) := by rw [hks'.out, List.take_length]
      refine ⟨⟨_, rfl⟩, A', c', ?_, ?_, ?_⟩
      · rw [← hk_]
        refine ⟨by simpa using s1, low, ?_, ?_, ?_, ?_⟩
        · rw [World.cell?_setCell_other _ _ _ _ (by simp)]; exact (hw0.cell (p := ⟨rb, 0, none⟩) lt).trans H.out.g
        · exact World.cell?_setCell_same' _ _ _ (by rw [k1]; rfl)
        · rw [World.frozen?_setCell]; exact hfr
        · exact ownsRow_setCell_below (own_mono ho.out (by omega)) low _
      · rcases ho.out.2 with ⟨hb, _⟩ | ⟨g', c_, cur, hb, hBg, _⟩
        · exact .inl (by injection hb)
        · exact .inr ⟨g', by injection hb, by omega⟩
      · exact (But2.of_below hw0).put _ _ (.inl rfl)
end Go.Proofs.YtehmbcpgendkjaaDoor
