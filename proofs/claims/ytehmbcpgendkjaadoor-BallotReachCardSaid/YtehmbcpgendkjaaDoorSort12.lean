import Derived.Test.YtehmbcpgendkjaaDoorBase
import Derived.Test.YtehmbcpgendkjaaDoorWord
import Derived.Laws.OwnMore
import Derived.LoopTactic
import Derived.LoopN
namespace Go.Proofs.YtehmbcpgendkjaaDoor
open Go.RowKit
set_option linter.unusedSimpArgs false
set_option linter.unusedVariables false
theorem cnan_any (x : Int) (w : World) : Calls Tryd.prog 91 #[.int .u64 x] w fun e w' => e = .returned (.bool false) ∧ w = w' := by
  go_enter Tryd.func91, Tryd.ntmps91
  go_wp2
  go_ret
  exact ⟨by simp, rfl⟩
theorem cless_any (x y : Int) (w : World) : Calls Tryd.prog 81 #[.int .u64 x, .int .u64 y] w fun e w' => e = .returned (.bool (decide (x < y))) ∧ w = w' := by
  have N := fun z => Lib.hid (cnan_any z w)
  by_cases h : x < y
  · have hd : decide (x < y) = true := decide_eq_true h
    rw [hd]
    go_enter Tryd.func81, Tryd.ntmps81
    go_wp2_with (go_at_call 91; refine (N _).out.mono ?_; rintro e w1 ⟨rfl, rfl⟩)
    go_ret
    exact ⟨by simp, rfl⟩
  · have hd : decide (x < y) = false := decide_eq_false h
    rw [hd]
    go_enter Tryd.func81, Tryd.ntmps81
    go_wp2_with (go_at_call 91; refine (N _).out.mono ?_; rintro e w1 ⟨rfl, rfl⟩)
    go_ret
    exact ⟨by simp, rfl⟩
/-- The row with two neighbours exchanged. -/
def swapL (zs : List Int) (j : Nat) : List Int := (zs.set j (zs.getD (j - 1) 0)).set (j - 1) (zs.getD j 0)
theorem swapL_len (zs : List Int) (j : Nat) : (swapL zs j).length = zs.length := by simp [swapL]
theorem swapL_get (zs : List Int) (j x : Nat) (hj : 0 < j) (hl : j < zs.length) : (swapL zs j).getD x 0 = if x = j - 1 then zs.getD j 0 else if x = j then zs.getD (j - 1) 0 else zs.getD x 0 := by
  unfold swapL
  simp only [List.getD_eq_getElem?_getD, List.getElem?_set, List.length_set]
  by_cases h1 : x = j - 1
  · subst h1
    simp [show j - 1 < zs.length by omega]
  · by_cases h2 : x = j
    · subst h2
      simp [Ne.symm h1, hl, h1]
    · simp [Ne.symm h1, Ne.symm h2, h1, h2]
theorem swapL_perm (zs : List Int) (j : Nat) (hj : 0 < j) (hl : j < zs.length) : (swapL zs j).Perm zs := by
  unfold swapL
  have h1 : zs.getD (j - 1) 0 = zs[j - 1] := by simp [List.getD_eq_getElem?_getD, show j - 1 < zs.length by omega]
  have h2 : zs.getD j 0 = zs[j] := by simp [List.getD_eq_getElem?_getD, hl]
  rw [h1, h2]
  exact List.set_set_perm hl (by omega)
/-- The first i + 1 numbers are in order but for the one at j. -/
def InsSt (zs : List Int) (i j : Nat) : Prop := ∀ p q, p < q → q ≤ i → q ≠ j → zs.getD p 0 ≤ zs.getD q 0
theorem InsSt.step {zs : List Int} {i j : Nat} (h : InsSt zs i j) (hj : 0 < j) (hji : j ≤ i) (hi : i < zs.length) (hlt : zs.getD j 0 < zs.getD (j - 1) 0) : InsSt (swapL zs j) i (j - 1) := by
  intro p q hpq hq hne
  rw [swapL_get zs j p hj (by omega), swapL_get zs j q hj (by omega), if_neg hne]
  by_cases e : q = j
  · rw [if_pos e]
    by_cases e1 : p = j - 1
    · rw [if_pos e1]; omega
    · rw [if_neg e1, if_neg (by omega)]
      exact h p (j - 1) (by omega) (by omega) (by omega)
  · rw [if_neg e]
    by_cases e1 : p = j - 1
    · rw [if_pos e1]
      exact h j q (by omega) hq e
    · rw [if_neg e1]
      by_cases e2 : p = j
      · rw [if_pos e2]
        exact h (j - 1) q (by omega) hq e
      · rw [if_neg e2]
        exact h p q hpq hq e
theorem InsSt.done {zs : List Int} {i j : Nat} (h : InsSt zs i j) (hx : j = 0 ∨ zs.getD (j - 1) 0 ≤ zs.getD j 0) : ∀ p q, p < q → q ≤ i → zs.getD p 0 ≤ zs.getD q 0 := by
  intro p q hpq hq
  by_cases e : q = j
  · subst e
    rcases hx with hx | hx
    · omega
    · by_cases e1 : p = q - 1
      · rw [e1]; exact hx
      · exact Int.le_trans (h p (q - 1) (by omega) (by omega) (by omega)) hx
  · exact h p q hpq hq e
theorem InsSt.next {zs : List Int} {i : Nat} (h : ∀ p q, p < q → q ≤ i → zs.getD p 0 ≤ zs.getD q 0) : InsSt zs (i + 1) (i + 1) := fun p q hpq hq hne => h p q hpq (by omega)
def RowU (w : World) (B g n cap : Nat) (zs : List Int) : Prop := w.ownsRow B 22 1 (.slice (some ⟨g, 0, none⟩) n cap) n (zs.map (Value.int .u64))
theorem RowU.cell {w : World} {B g n cap : Nat} {zs : List Int} (h : RowU w B g n cap zs) (hl : zs.length = n) (j : Nat) (hj : j < n) : w.cell? ⟨g, j, none⟩ = some (.int .u64 (zs.getD j 0)) := by
  rw [h.cellAt j (by omega)]
  simp [List.getD_eq_getElem?_getD, show j < zs.length by omega]
theorem RowU.below {w w' : World} {B g n cap : Nat} {zs : List Int} (h : RowU w B g n cap zs) (hb : Below w.heap.size w w') : RowU w' B g n cap zs := by
  obtain ⟨hl, h | ⟨g', c, cur, hv, hB, hh, hn, hm, hs, ht⟩⟩ := h
  · exact ⟨hl, .inl h⟩
  · refine ⟨hl, .inr ⟨g', c, cur, hv, hB, (hb.block g' ?_).trans hh, hn, hm, hs, ht⟩⟩
    by_cases hlt : g' < w.heap.size
    · exact hlt
    · rw [Array.getElem?_eq_none (by omega)] at hh; simp at hh
theorem RowU.swap {w : World} {B g n cap : Nat} {zs : List Int} (h : RowU w B g n cap zs) (j : Nat) : RowU ((w.setCell ⟨g, j, none⟩ (.int .u64 (zs.getD (j - 1) 0))).setCell ⟨g, j - 1, none⟩ (.int .u64 (zs.getD j 0))) B g n cap (swapL zs j) := by
  have h1 := (World.ownsRow.stored h j (.int .u64 (zs.getD (j - 1) 0))).1
  have h2 := (World.ownsRow.stored h1 (j - 1) (.int .u64 (zs.getD j 0))).1
  unfold RowU swapL
  rw [List.map_set, List.map_set]
  exact h2
set_option maxRecDepth 100000 in
set_option maxHeartbeats 1600000 in
theorem isort_at (B g n cap : Nat) (zs : List Int) (w : World) (h : RowU w B g n cap zs) (hl : zs.length = n) (hn : n ≤ 12) :
    Calls Tryd.prog 75 #[.slice (some ⟨g, 0, none⟩) n cap, .int .i64 0, .int .i64 (n : Nat)] w fun e w' => (∃ v, e = .returned v) ∧ ∃ zs' : List Int, zs'.Perm zs ∧ (∀ p q, p < q → q < n → zs'.getD p 0 ≤ zs'.getD q 0) ∧ RowU w' B g n cap zs' ∧ w.grownBy w' (some g) := by
  have H := Lib.hid h
  clear h
  go_enter Tryd.func75, Tryd.ntmps75
  go_wp2
  go_loopw [6] (fun i wr => ∃ (k : Nat) (ys : List Int), i = .int .i64 k ∧ (k ≤ n ∨ k = 1) ∧ ys.Perm zs ∧ (∀ p q, p < q → q < k → ys.getD p 0 ≤ ys.getD q 0) ∧ RowU wr B g n cap ys ∧ w.grownBy wr (some g)) (fun i _ => 64 - (intOf i).toNat)
  case atStart => exact ⟨1, zs, rfl, .inr rfl, .refl _, fun p q h1 h2 => by omega, H.out, World.grownBy.refl _ _⟩
  case round =>
    obtain ⟨k, ys, rfl, hk, hp, hs, hr, hg⟩ := hrel
    replace hp := Lib.hid hp
    replace hs := Lib.hid hs
    replace hr := Lib.hid hr
    replace hg := Lib.hid hg
    by_cases hlt : k < n
    · go_wp2
      go_loopw [7] (fun i wr => ∃ (j : Nat) (xs : List Int), i = .int .i64 j ∧ j ≤ k ∧ xs.Perm zs ∧ InsSt xs k j ∧ RowU wr B g n cap xs ∧ w.grownBy wr (some g)) (fun i _ => (intOf i).toNat)
      case atStart => exact ⟨k, ys, rfl, Nat.le_refl _, hp.out, fun p q h1 h2 h3 => hs.out p q h1 (by omega), hr.out, hg.out⟩
      case round =>
        obtain ⟨j, xs, rfl, hj, hp', hs', hr', hg'⟩ := hrel
        have hxl : xs.length = n := hp'.length_eq.trans hl
        have sg : g < wr.heap.size := (World.ownsRow.lt hr' g rfl).2
        replace hp' := Lib.hid hp'
        replace hs' := Lib.hid hs'
        replace hg' := Lib.hid hg'
        rcases j with _ | m
        · replace hr' := Lib.hid hr'
          go_wp2_with fail
          refine wp_region_below (by kernel_rfl) (by kernel_rfl) ?_
          repeat first | go_big_quiet_skip | (go_big_quiet_want; go_big_quiet_op; go_big_quiet_on) | (go_big_quiet_want; rename_i K hK; apply quiet_mk; (focus (intro w1 hw1; have hc1 := (bcell hw1).1; have hf1 := (bcell hw1).2; go_simp; first | done | rfl | (fail))); refine hK _ ?_; clear hK K; try simp only [Act.put, List.setIfInBounds_toArray, List.set_cons_zero, List.set_cons_succ])
          refine wpQuiet_nil ?_
          intro wa hb_wa
          have hc_wa := (bcell hb_wa).1
          have hf_wa := (bcell hb_wa).2
          go_wp2
          go_roundw
          case measure => simp [intOf]; omega
          case rel => exact ⟨k + 1, xs, by go_num, .inl (by omega), hp'.out, fun p q h1 h2 => hs'.out.done (.inl rfl) p q h1 (by omega), hr'.out.below hb_wa, grown_then hg'.out (grown_of_below hb_wa _)⟩
        · have c0 := hr'.cell hxl (m + 1) (by omega)
          have c1 := hr'.cell hxl m (by omega)
          have b0 : ((m : Nat) : Int) < (n : Nat) := by omega
          have b1 : ((m : Nat) : Int) + 1 < (n : Nat) := by omega
          have ew : IntKind.i64.wrap ((m : Nat) : Int) = (m : Nat) := by simp only [IntKind.wrap, IntKind.signed, IntKind.bits]; simp; omega
          have b3 : (0 : Int) ≤ ((m : Nat) : Int) + 1 := by omega
          have b2 : (0 : Int) < ((m : Nat) : Int) + 1 := by omega
          replace hr' := Lib.hid hr'
          by_cases hc : xs.getD (m + 1) 0 < xs.getD m 0
          · have C : ∀ w1, Calls Tryd.prog 81 #[.int .u64 (xs.getD (m + 1) 0), .int .u64 (xs.getD m 0)] w1 fun e w' => e = .returned (.bool true) ∧ Below w1.heap.size w1 w' := fun w1 => by
              have h_ := cless_any (xs.getD (m + 1) 0) (xs.getD m 0) w1
              rw [decide_eq_true hc] at h_
              exact sameB h_
            replace C := Lib.hid C
            go_wp2_with fail
            refine wp_region_below (by kernel_rfl) (by kernel_rfl) ?_
            repeat first | go_big_quiet_skip | (go_big_quiet_want; go_big_quiet_op; go_big_quiet_on) | (go_big_quiet_want; rename_i K hK; apply quiet_mk; (focus (intro w1 hw1; have hc1 := (bcell hw1).1; have hf1 := (bcell hw1).2; go_simp; first | done | rfl | (first | (go_at_call 81; (refine (C.out _).mono ?_); rintro e w2 ⟨rfl, hb2⟩; exact ⟨rfl, (hw1.trans (hb2.mono hw1.size)).mono (by simp)⟩)))); refine hK _ ?_; clear hK K; try simp only [Act.put, List.setIfInBounds_toArray, List.set_cons_zero, List.set_cons_succ])
            refine wpQuiet_nil ?_
            intro wa hb_wa
            have hc_wa := (bcell hb_wa).1
            have hf_wa := (bcell hb_wa).2
            have hra := Lib.hid (hr'.out.below hb_wa)
            have f0 := World.ownsRow.frozenAt hr'.out (m + 1)
            have f1 := World.ownsRow.frozenAt hr'.out m
            go_wp2_with fail
            go_region
            go_wp2
            go_roundw
            case measure => simp [intOf]
            case rel =>
              have hw_ := hra.out.swap (m + 1)
              have g1 := (World.ownsRow.stored hra.out (m + 1) (.int .u64 (xs.getD m 0)))
              have g2 := (World.ownsRow.stored g1.1 m (.int .u64 (xs.getD (m + 1) 0))).2
              have g3 := grown_then (grown_then hg'.out (grown_of_below hb_wa _)) (grown_then g1.2 g2)
              refine ⟨m, swapL xs (m + 1), by go_num, by omega, (swapL_perm xs (m + 1) (by omega) (by omega)).trans hp'.out, hs'.out.step (by omega) hj (by omega) (by simpa using hc), ?_, ?_⟩
              · first | exact hw_ | exact RowU.below hw_ (Below.refl _ _).drew
              · first | exact g3 | exact grown_then g3 (grown_of_below (Below.refl _ _).drew _)
          · have C : ∀ w1, Calls Tryd.prog 81 #[.int .u64 (xs.getD (m + 1) 0), .int .u64 (xs.getD m 0)] w1 fun e w' => e = .returned (.bool false) ∧ Below w1.heap.size w1 w' := fun w1 => by
              have h_ := cless_any (xs.getD (m + 1) 0) (xs.getD m 0) w1
              rw [decide_eq_false hc] at h_
              exact sameB h_
            replace C := Lib.hid C
            go_wp2_with fail
            refine wp_region_below (by kernel_rfl) (by kernel_rfl) ?_
            repeat first | go_big_quiet_skip | (go_big_quiet_want; go_big_quiet_op; go_big_quiet_on) | (go_big_quiet_want; rename_i K hK; apply quiet_mk; (focus (intro w1 hw1; have hc1 := (bcell hw1).1; have hf1 := (bcell hw1).2; go_simp; first | done | rfl | (first | (go_at_call 81; (refine (C.out _).mono ?_); rintro e w2 ⟨rfl, hb2⟩; exact ⟨rfl, (hw1.trans (hb2.mono hw1.size)).mono (by simp)⟩)))); refine hK _ ?_; clear hK K; try simp only [Act.put, List.setIfInBounds_toArray, List.set_cons_zero, List.set_cons_succ])
            refine wpQuiet_nil ?_
            intro wa hb_wa
            have hc_wa := (bcell hb_wa).1
            have hf_wa := (bcell hb_wa).2
            go_wp2
            go_roundw
            case measure => simp [intOf]; omega
            case rel => exact ⟨k + 1, xs, by go_num, .inl (by omega), hp'.out, fun p q h1 h2 => hs'.out.done (.inr (by simpa using hc)) p q h1 (by omega), hr'.out.below hb_wa, grown_then hg'.out (grown_of_below hb_wa _)⟩
    · go_wp2
      go_end0
      exact ⟨⟨_, rfl⟩, ys, hp.out, fun p q h1 h2 => hs.out p q h1 (by omega), hr.out, hg.out⟩
end Go.Proofs.YtehmbcpgendkjaaDoor
