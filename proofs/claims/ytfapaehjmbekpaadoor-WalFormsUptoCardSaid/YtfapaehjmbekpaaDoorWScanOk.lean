import Derived.Test.YtfapaehjmbekpaaDoorWScan
namespace Go.Proofs.YtfapaehjmbekpaaDoor
open Go.RowKit
set_option linter.unusedSimpArgs false
set_option linter.unusedVariables false
theorem RowsX.mono {w : World} {B B' : Nat} {v : Value} {ls : List (List Int)} {xs : List Value} (h : RowsX w B' v ls xs) (hb : B ≤ B') : RowsX w B v ls xs :=
  ⟨h.len, ⟨h.row.1, h.row.2.imp id (fun ⟨g, c, cur, h1, h2, h3⟩ => ⟨g, c, cur, h1, Nat.le_trans hb h2, h3⟩)⟩, fun i hi => (h.own i hi).mono hb, h.out, h.sep⟩
theorem little32_nil (x : Nat) (w : World) (hx : x < 4294967296) : Calls Tryd.prog 21 #[.slice none 0 0, .int .u32 x] w fun e w' => ∃ q d, e = .returned (.slice q 4 d) ∧ RdB w' q (le32 x) ∧ Below w.heap.size w w' :=
  (little32_at w.heap.size (.slice none 0 0) [] x w hx (ownB_nil _ _) (Nat.le_refl _) (by simp)).mono fun e w' ⟨v', h1, h2, h3⟩ => by
    obtain ⟨q, d, rfl, hq⟩ := h2.form
    exact ⟨q, d, h1, hq, h3⟩
set_option maxRecDepth 100000 in
set_option maxHeartbeats 3200000 in
theorem scan_ok (file : Nat) (p : Option Addr) (n c : Nat) (data : List Int) (w : World) (hl : data.length = n) (h : 21 ≤ n) (hm : n ≤ 10000000000) (hnc : n ≤ c) (hr : RdB w p data) (hY : Byt data) (h64 : val32 (data.drop 13) ≤ 64) (hf : file ≠ 0) (hf2 : file ≤ 4611686018427387904) (hT : Nib w) (hp : pfxB data (hdr file (val32 (data.drop 13))) = true) : Calls Tryd.prog 13 #[.int .u64 file, .slice p n c] w (ScanPost file data w) := by
  have hn := Lib.hid (fun h6 => scan_yes (file := file) (data := data) (by omega) h64 hf hf2 hp h6)
  have hno := Lib.hid (fun h6 => scan_no (file := file) (data := data) (.inr (.inr (.inr (.inr h6)))))
  replace hf := Lib.hid hf
  replace hT := Lib.hid hT
  replace hp := Lib.hid hp
  have h1 : ¬ ((n : Nat) : Int) < 21 := by omega
  obtain ⟨b, o, rfl, hblt, _⟩ := hr.at (k := 0) (by omega)
  have hc13 : ¬ c = 13 := by omega
  have hv := val32_lt (l := data.drop 13) (by simp; omega) (hY.drop 13)
  obtain ⟨k, hk⟩ : ∃ k, k = val32 (data.drop 13) := ⟨_, rfl⟩
  rw [← hk] at hv h64
  have G := Lib.hid (get32_is (some ⟨b, o + 13, none⟩) (n - 13) (c - 13) (data.drop 13) w k hk.symm (by simp; omega) (by omega) (by unfold maxLen; omega) (hr.dropAt 13) (hY.drop 13))
  have HR := Lib.hid hr
  have HY := Lib.hid hY
  replace hl := Lib.hid hl
  replace hk := Lib.hid hk
  have h64' : ¬ (64 : Int) < (k : Nat) := by omega
  have h64'' : ((k : Nat) : Int) ≤ 64 := by omega
  clear hr hY
  go_enter Tryd.func13, Tryd.ntmps13
  go_wp2
  go_step3
  go_wp2_with fail
  refine G.out.mono ?_
  rintro e w1 ⟨rfl, hw1⟩
  replace hw1 := Lib.hid hw1
  clear G
  go_wp2_with fail
  refine (header_ok file k _ hf.out hf2 h64 (hT.out.below (Nat.le_refl _) hw1.out)).mono ?_
  rintro e w2 ⟨v, rfl, ho, hw2⟩
  obtain ⟨q, d, rfl, hq⟩ := ho.form
  have hw := Lib.hid (Below.on hw1.out hw2)
  have S := Lib.hid (starts_is (some ⟨b, o, none⟩) q n c 21 d data (hdr file k) w2 true (by rw [hk.out]; exact hp.out) hl.out rfl hnc (by unfold maxLen; omega) (HR.out.below hw.out) hq)
  rw [hdr_len]
  clear ho hw2 hq
  go_wp2_with fail
  refine S.out.mono ?_
  rintro e w3 ⟨rfl, hw3'⟩
  have hw3 := Lib.hid (Below.on hw.out hw3')
  clear hw3' S
  go_wp2
  go_step3
  go_wp2
  go_loopw [5, 6] (fun t i wr => ∃ (ls : List (List Int)) (xs : List Value) (a : Nat), i = .int .i64 a ∧ ScanAt data ls a ∧ RowsX wr w3.heap.size t ls xs ∧ Below w3.heap.size w3 wr) (fun _ i _ => n - (intOf i).toNat)
  case atStart => exact ⟨[], [], 21, rfl, scanAt_start (by rw [hl.out]; exact h), rowsX_nil _ _, Below.refl _ _⟩
  case round =>
    obtain ⟨ls, xs, a, rfl, hat, hrows, hB⟩ := hrel
    obtain ⟨pv, cv, rfl⟩ := hrows.form
    have han : a ≤ n := by rw [← hl.out]; exact hat.2.1
    have hln : 16 * ls.length ≤ n := by rw [← hl.out]; exact hat.2.2.1
    have hdl : (data.drop a).length = n - a := by rw [List.length_drop, hl.out]
    have hwr := hw3.out.trans (hB.mono hw3.out.size)
    have hR := Lib.hid ((HR.out.below hwr).dropAt a)
    have hYr := Lib.hid (HY.out.drop a)
    obtain ⟨r, hra⟩ : ∃ r, n - a = r := ⟨_, rfl⟩
    obtain ⟨cr, hca⟩ : ∃ cr, c - a = cr := ⟨_, rfl⟩
    rw [hra] at hdl
    replace hat := Lib.hid hat
    replace hrows := Lib.hid hrows
    replace hB := Lib.hid hB
    replace hwr := Lib.hid hwr
    replace hdl := Lib.hid hdl
    by_cases hA : r < 16
    · have hnone := Lib.hid (show nextB ls.length (data.drop a) = none by unfold nextB; rw [if_pos (.inl (by rw [hdl.out]; exact hA))])
      by_cases hca0 : c = a
      ·
        have hdone := Lib.hid (hat.out.done hnone.out)
        have hfb := Lib.hid (Below.refl wr.heap.size wr)
        by_cases hfin : ls.length < k
        · have hz := Lib.hid (hno.out (by rw [hdone.out, ← hk.out]; exact hfin))
          have hfin' : ((ls.length : Nat) : Int) < (k : Nat) := by omega
          go_wp2
          try rw [Exit.noGoto_ret]
          refine bodyPost_ret (v := .tuple #[.int .i64 0, .slice none 0 0, .int .i64 0, .int .i64 167]) (by simp [results, Tryd.results13, go_sem]) rfl ?_
          exact .inl ⟨hz.out, rfl, Below.on hwr.out hfb.out⟩
        · have hz := Lib.hid (hn.out (by rw [hdone.out, ← hk.out]; omega))
          have hfin' : ¬ ((ls.length : Nat) : Int) < (k : Nat) := by omega
          go_wp2
          try rw [Exit.noGoto_ret]
          refine bodyPost_ret (v := .tuple #[.int .i64 k, .slice pv ls.length cv, .int .i64 a, .int .i64 0]) (by simp [results, Tryd.results13, go_sem]) rfl ?_
          exact .inr ⟨k, ls, _, xs, by rw [hz.out, hdone.out, hk.out], by rw [hat.out.1], ((hrows.out.below hfb.out).mono hw3.out.size), Below.on hwr.out hfb.out⟩
      ·
        have hdone := Lib.hid (hat.out.done hnone.out)
        have hfb := Lib.hid (Below.refl wr.heap.size wr)
        by_cases hfin : ls.length < k
        · have hz := Lib.hid (hno.out (by rw [hdone.out, ← hk.out]; exact hfin))
          have hfin' : ((ls.length : Nat) : Int) < (k : Nat) := by omega
          go_wp2
          try rw [Exit.noGoto_ret]
          refine bodyPost_ret (v := .tuple #[.int .i64 0, .slice none 0 0, .int .i64 0, .int .i64 167]) (by simp [results, Tryd.results13, go_sem]) rfl ?_
          exact .inl ⟨hz.out, rfl, Below.on hwr.out hfb.out⟩
        · have hz := Lib.hid (hn.out (by rw [hdone.out, ← hk.out]; omega))
          have hfin' : ¬ ((ls.length : Nat) : Int) < (k : Nat) := by omega
          go_wp2
          try rw [Exit.noGoto_ret]
          refine bodyPost_ret (v := .tuple #[.int .i64 k, .slice pv ls.length cv, .int .i64 a, .int .i64 0]) (by simp [results, Tryd.results13, go_sem]) rfl ?_
          exact .inr ⟨k, ls, _, xs, by rw [hz.out, hdone.out, hk.out], by rw [hat.out.1], ((hrows.out.below hfb.out).mono hw3.out.size), Below.on hwr.out hfb.out⟩
    · have hcr : r ≤ cr := by omega
      have hca0 : ¬ c = a := by omega
      have hr16 : ¬ ((r : Nat) : Int) < 16 := by omega
      obtain ⟨s, hs⟩ : ∃ s, s = val32 (data.drop a) := ⟨_, rfl⟩
      have hs4 : s < 4294967296 := by rw [hs]; exact val32_lt (by rw [hdl.out]; omega) hYr.out
      have G := Lib.hid (get32_is (some ⟨b, o + a, none⟩) r cr (data.drop a) wr s hs.symm hdl.out (by omega) (by unfold maxLen; omega) hR.out hYr.out)
      replace hs := Lib.hid hs
      go_wp2_with fail
      refine G.out.mono ?_
      rintro e w4 ⟨rfl, hw4⟩
      replace hw4 := Lib.hid hw4
      clear G
      by_cases hB1 : 60000 < s
      · have hnone := Lib.hid (show nextB ls.length (data.drop a) = none by unfold nextB; rw [if_pos (.inr (.inl (by rw [← hs.out]; exact hB1)))])
        have hB1' : (60000 : Int) < (s : Nat) := by omega
        have hdone := Lib.hid (hat.out.done hnone.out)
        have hfb := Lib.hid hw4.out
        by_cases hfin : ls.length < k
        · have hz := Lib.hid (hno.out (by rw [hdone.out, ← hk.out]; exact hfin))
          have hfin' : ((ls.length : Nat) : Int) < (k : Nat) := by omega
          go_wp2
          try rw [Exit.noGoto_ret]
          refine bodyPost_ret (v := .tuple #[.int .i64 0, .slice none 0 0, .int .i64 0, .int .i64 167]) (by simp [results, Tryd.results13, go_sem]) rfl ?_
          exact .inl ⟨hz.out, rfl, Below.on hwr.out hfb.out⟩
        · have hz := Lib.hid (hn.out (by rw [hdone.out, ← hk.out]; omega))
          have hfin' : ¬ ((ls.length : Nat) : Int) < (k : Nat) := by omega
          go_wp2
          try rw [Exit.noGoto_ret]
          refine bodyPost_ret (v := .tuple #[.int .i64 k, .slice pv ls.length cv, .int .i64 a, .int .i64 0]) (by simp [results, Tryd.results13, go_sem]) rfl ?_
          exact .inr ⟨k, ls, _, xs, by rw [hz.out, hdone.out, hk.out], by rw [hat.out.1], ((hrows.out.below hfb.out).mono hw3.out.size), Below.on hwr.out hfb.out⟩
      · have hB1' : ¬ (60000 : Int) < (s : Nat) := by omega
        have hB1'' : ((s : Nat) : Int) ≤ 60000 := by omega
        by_cases hB2 : r < s + 16
        · have hnone := Lib.hid (show nextB ls.length (data.drop a) = none by unfold nextB; rw [if_pos (.inr (.inr (by rw [← hs.out, hdl.out]; exact hB2)))])
          have hB2' : ((r : Nat) : Int) < (s : Nat) + 16 := by omega
          have hdone := Lib.hid (hat.out.done hnone.out)
          have hfb := Lib.hid hw4.out
          by_cases hfin : ls.length < k
          · have hz := Lib.hid (hno.out (by rw [hdone.out, ← hk.out]; exact hfin))
            have hfin' : ((ls.length : Nat) : Int) < (k : Nat) := by omega
            go_wp2
            try rw [Exit.noGoto_ret]
            refine bodyPost_ret (v := .tuple #[.int .i64 0, .slice none 0 0, .int .i64 0, .int .i64 167]) (by simp [results, Tryd.results13, go_sem]) rfl ?_
            exact .inl ⟨hz.out, rfl, Below.on hwr.out hfb.out⟩
          · have hz := Lib.hid (hn.out (by rw [hdone.out, ← hk.out]; omega))
            have hfin' : ¬ ((ls.length : Nat) : Int) < (k : Nat) := by omega
            go_wp2
            try rw [Exit.noGoto_ret]
            refine bodyPost_ret (v := .tuple #[.int .i64 k, .slice pv ls.length cv, .int .i64 a, .int .i64 0]) (by simp [results, Tryd.results13, go_sem]) rfl ?_
            exact .inr ⟨k, ls, _, xs, by rw [hz.out, hdone.out, hk.out], by rw [hat.out.1], ((hrows.out.below hfb.out).mono hw3.out.size), Below.on hwr.out hfb.out⟩
        · have hB2' : ¬ ((r : Nat) : Int) < (s : Nat) + 16 := by omega
          have hc4 : ¬ cr = 4 := by omega
          have hlook := Lib.hid (frame_looks (n := ls.length) (rest := data.drop a) (by omega) (by rw [hdl.out]; omega) (by rw [hdl.out, ← hs.out]; omega) (by rw [← hs.out]; omega) hYr.out)
          obtain ⟨z, hz⟩ : ∃ z, z = val32 ((data.drop a).drop 4) := ⟨_, rfl⟩
          have hz4 : z < 4294967296 := by rw [hz]; exact val32_lt (by rw [List.length_drop, hdl.out]; omega) (hYr.out.drop 4)
          have G := Lib.hid (get32_is (some ⟨b, o + a + 4, none⟩) (r - 4) (cr - 4) ((data.drop a).drop 4) w4 z hz.symm (by rw [List.length_drop, hdl.out]) (by omega) (by unfold maxLen; omega) ((hR.out.below hw4.out).dropAt 4) (hYr.out.drop 4))
          replace hz := Lib.hid hz
          go_wp2_with fail
          refine G.out.mono ?_
          rintro e w5 ⟨rfl, hw5'⟩
          have hw5 := Lib.hid (Below.on hw4.out hw5')
          clear G hw5'
          by_cases hC : z = ls.length
          · subst hC
            obtain ⟨body, hbody⟩ : ∃ body, body = ((data.drop a).drop 12).take s := ⟨_, rfl⟩
            have hbl : body.length = s := by rw [hbody, List.length_take, List.length_drop, hdl.out]; omega
            have hbR := Lib.hid (show RdB wr (some ⟨b, o + a + 12, none⟩) body by rw [hbody]; exact (hR.out.dropAt 12).take s)
            have hbY := Lib.hid (show Byt body by rw [hbody]; exact (hYr.out.drop 12).take s)
            have h8R := Lib.hid (show RdB wr (some ⟨b, o + a, none⟩) ((data.drop a).take 8) from hR.out.take 8)
            have h8l := Lib.hid (show ((data.drop a).take 8).length = 8 by rw [List.length_take, hdl.out]; omega)
            have h8Y := Lib.hid (show Byt ((data.drop a).take 8) from hYr.out.take 8)
            have hT5 := Lib.hid (hT.out.below (Nat.le_refl _) (Below.on hwr.out hw5.out))
            replace hbody := Lib.hid hbody
            replace hbl := Lib.hid hbl
            have hc8 : ¬ cr = 8 := by omega
            have h8r : (8 : Int) ≤ (r : Nat) := by omega
            have h8c : (8 : Int) ≤ (cr : Nat) := by omega
            have hc12 : ¬ cr = 12 := by omega
            have hce : ¬ cr = 12 + s := by omega
            have hle : (12 : Int) + (s : Nat) ≤ (r : Nat) := by omega
            have hlc : (12 : Int) + (s : Nat) ≤ (cr : Nat) := by omega
            have h0e : (0 : Int) ≤ 12 + ((s : Nat) : Int) := by omega
            have h12e : (12 : Int) ≤ 12 + ((s : Nat) : Int) := by omega
            have hte : (12 + ((s : Nat) : Int)).toNat = 12 + s := by omega
            go_wp2_with fail
            by_cases hD1 : pfxB ((data.drop a).drop 8) (le32 (crc ((data.drop a).take 8))) = true
            · replace hD1 := Lib.hid hD1
              have hD1' := hD1
              by_cases hD2 : pfxB ((data.drop a).drop (12 + s)) (le32 (crc body)) = true
              · have hD2' := Lib.hid hD2
                replace hD2 := Lib.hid hD2
                have hnext := Lib.hid (show nextB ls.length (data.drop a) = some body by
                  unfold nextB
                  rw [if_neg (by rw [hdl.out, ← hs.out]; omega), if_pos (by rw [hlook.out, ← hs.out, ← hbody.out, ← hz.out, hD1.out, hD2.out]; simp), ← hs.out, ← hbody.out])
                refine wp_region_any (by kernel_rfl) ?_
                change wpAny _ _ _ _ _ _ _ (World.drew _)
                refine wpAny_take (i := 0) (v := ?_) rfl (by kernel_rfl) (by kernel_rfl) (by kernel_rfl) (fun _ _ _ h => h) (Or.inl ⟨by rfl, ?_⟩) ?_
                case refine_2 => (intro w; go_simp; first | done | with_reducible rfl)
                try simp only [Act.put, List.getElem_toArray, List.getElem_cons_zero, List.getElem_cons_succ, List.setIfInBounds_toArray, List.set_cons_zero, List.set_cons_succ]
                refine wpAny_take (i := 1) (v := ?_) rfl (by kernel_rfl) (by kernel_rfl) (by kernel_rfl) (fun _ _ _ h => h) (Or.inl ⟨by rfl, ?_⟩) ?_
                case refine_2 => (intro w; go_simp; first | done | with_reducible rfl)
                try simp only [Act.put, List.getElem_toArray, List.getElem_cons_zero, List.getElem_cons_succ, List.setIfInBounds_toArray, List.set_cons_zero, List.set_cons_succ]
                refine wpAny_take (i := 2) (v := ?_) rfl (by kernel_rfl) (by kernel_rfl) (by kernel_rfl) (fun _ _ _ h => h) (Or.inl ⟨by rfl, ?_⟩) ?_
                case refine_2 => (intro w; go_simp; first | done | with_reducible rfl)
                try simp only [Act.put, List.getElem_toArray, List.getElem_cons_zero, List.getElem_cons_succ, List.setIfInBounds_toArray, List.set_cons_zero, List.set_cons_succ]
                refine wpAny_take (i := 3) (v := ?_) rfl (by kernel_rfl) (by kernel_rfl) (by kernel_rfl) (fun _ _ _ h => h) (Or.inl ⟨by rfl, ?_⟩) ?_
                case refine_2 => (intro w; go_simp; first | done | with_reducible rfl)
                try simp only [Act.put, List.getElem_toArray, List.getElem_cons_zero, List.getElem_cons_succ, List.setIfInBounds_toArray, List.set_cons_zero, List.set_cons_succ]
                refine wpAny_ready (rs := [4]) (by kernel_rfl) (by simp) ?_
                refine AllReady.cons rfl (fun K hK => ?_) AllReady.nil
                go_simp
                go_wp2_with ((go_at_call 22; (with_reducible refine (sum_at (some ⟨b, o + a, none⟩) 8 cr _ _ h8l.out (by unfold maxLen; omega) (h8R.out.below (Below.on hw5.out (Below.refl _ _).drew)) h8Y.out (hT5.out.below (Nat.le_refl _) (Below.refl _ _).drew)).mono ?_); rintro e w6 ⟨rfl, rfl⟩))
                have hS0 := Lib.hid (show Below w5.heap.size w5 w5.drew from (Below.refl _ _).drew)
                refine wpAny_ready (rs := [5]) (by kernel_rfl) (by simp) ?_
                refine AllReady.cons rfl (fun K hK => ?_) AllReady.nil
                go_simp
                go_wp2_with ((go_at_call 21; (with_reducible refine (little32_nil _ _ (crc_lt _)).mono ?_); rintro e w6 ⟨q6, d6, rfl, hq6, hb6⟩; have hS1 := Lib.hid (Below.on hS0.out hb6); replace hq6 := Lib.hid hq6; clear hb6))
                refine wpAny_ready (rs := [6]) (by kernel_rfl) (by simp) ?_
                refine AllReady.cons rfl (fun K hK => ?_) AllReady.nil
                go_simp
                go_wp2_with ((go_at_call 32; (with_reducible refine (starts_is (some ⟨b, o + a + 8, none⟩) q6 (r - 8) (cr - 8) 4 d6 ((data.drop a).drop 8) (le32 (crc ((data.drop a).take 8))) _ true hD1'.out (by rw [List.length_drop, hdl.out]) rfl (by omega) (by unfold maxLen; omega) ((hR.out.below (Below.on hw5.out hS1.out)).dropAt 8) hq6.out).mono ?_); rintro e w7 ⟨rfl, hb6⟩; have hS2 := Lib.hid (Below.on hS1.out hb6); clear hb6))
                refine wpAny_take (i := 7) (v := ?_) rfl (by kernel_rfl) (by kernel_rfl) (by kernel_rfl) (fun _ _ _ h => h) (Or.inl ⟨by rfl, ?_⟩) ?_
                case refine_2 => (intro w; go_simp; first | done | with_reducible rfl)
                try simp only [Act.put, List.getElem_toArray, List.getElem_cons_zero, List.getElem_cons_succ, List.setIfInBounds_toArray, List.set_cons_zero, List.set_cons_succ]
                refine wpAny_take (i := 8) (v := ?_) rfl (by kernel_rfl) (by kernel_rfl) (by kernel_rfl) (fun _ _ _ h => h) (Or.inl ⟨by rfl, ?_⟩) ?_
                case refine_2 => (intro w; go_simp; first | done | with_reducible rfl)
                try simp only [Act.put, List.getElem_toArray, List.getElem_cons_zero, List.getElem_cons_succ, List.setIfInBounds_toArray, List.set_cons_zero, List.set_cons_succ]
                refine wpAny_take (i := 9) (v := ?_) rfl (by kernel_rfl) (by kernel_rfl) (by kernel_rfl) (fun _ _ _ h => h) (Or.inl ⟨by rfl, ?_⟩) ?_
                case refine_2 => (intro w; go_simp; first | done | with_reducible rfl)
                try simp only [Act.put, List.getElem_toArray, List.getElem_cons_zero, List.getElem_cons_succ, List.setIfInBounds_toArray, List.set_cons_zero, List.set_cons_succ]
                refine wpAny_take (i := 10) (v := ?_) rfl (by kernel_rfl) (by kernel_rfl) (by kernel_rfl) (fun _ _ _ h => h) (Or.inl ⟨by rfl, ?_⟩) ?_
                case refine_2 => (intro w; go_simp; first | done | with_reducible rfl)
                try simp only [Act.put, List.getElem_toArray, List.getElem_cons_zero, List.getElem_cons_succ, List.setIfInBounds_toArray, List.set_cons_zero, List.set_cons_succ]
                refine wpAny_take (i := 11) (v := ?_) rfl (by kernel_rfl) (by kernel_rfl) (by kernel_rfl) (fun _ _ _ h => h) (Or.inl ⟨by rfl, ?_⟩) ?_
                case refine_2 => (intro w; go_simp; first | done | with_reducible rfl)
                try simp only [Act.put, List.getElem_toArray, List.getElem_cons_zero, List.getElem_cons_succ, List.setIfInBounds_toArray, List.set_cons_zero, List.set_cons_succ]
                refine wpAny_take (i := 12) (v := ?_) rfl (by kernel_rfl) (by kernel_rfl) (by kernel_rfl) (fun _ _ _ h => h) (Or.inl ⟨by rfl, ?_⟩) ?_
                case refine_2 => (intro w; go_simp; first | done | with_reducible rfl)
                try simp only [Act.put, List.getElem_toArray, List.getElem_cons_zero, List.getElem_cons_succ, List.setIfInBounds_toArray, List.set_cons_zero, List.set_cons_succ]
                refine wpAny_ready (rs := [13]) (by kernel_rfl) (by simp) ?_
                refine AllReady.cons rfl (fun K hK => ?_) AllReady.nil
                go_simp
                go_wp2_with ((go_at_call 22; (with_reducible refine (sum_at (some ⟨b, o + a + 12, none⟩) s (cr - 12) body _ hbl.out (by unfold maxLen; omega) (hbR.out.below (Below.on hw5.out hS2.out)) hbY.out (hT5.out.below (Nat.le_refl _) hS2.out)).mono ?_); rintro e w8 ⟨rfl, rfl⟩))
                refine wpAny_ready (rs := [14]) (by kernel_rfl) (by simp) ?_
                refine AllReady.cons rfl (fun K hK => ?_) AllReady.nil
                go_simp
                go_wp2_with ((go_at_call 21; (with_reducible refine (little32_nil _ _ (crc_lt _)).mono ?_); rintro e w8 ⟨q8, d8, rfl, hq8, hb6⟩; have hS3 := Lib.hid (Below.on hS2.out hb6); replace hq8 := Lib.hid hq8; clear hb6))
                refine wpAny_ready (rs := [15]) (by kernel_rfl) (by simp) ?_
                refine AllReady.cons rfl (fun K hK => ?_) AllReady.nil
                go_simp
                go_wp2_with ((go_at_call 32; (with_reducible refine (starts_is (some ⟨b, o + a + (12 + s), none⟩) q8 (r - (12 + s)) (cr - (12 + s)) 4 d8 ((data.drop a).drop (12 + s)) (le32 (crc body)) _ true hD2'.out (by rw [List.length_drop, hdl.out]) rfl (by omega) (by unfold maxLen; omega) ((hR.out.below (Below.on hw5.out hS3.out)).dropAt (12 + s)) hq8.out).mono ?_); rintro e w9 ⟨rfl, hb6⟩; have hS4 := Lib.hid (Below.on hS3.out hb6); clear hb6))
                refine wpAny_take (i := 16) (v := ?_) rfl (by kernel_rfl) (by kernel_rfl) (by kernel_rfl) (fun _ _ _ h => h) (Or.inl ⟨by rfl, ?_⟩) ?_
                case refine_2 => (intro w; go_simp; first | done | with_reducible rfl)
                try simp only [Act.put, List.getElem_toArray, List.getElem_cons_zero, List.getElem_cons_succ, List.setIfInBounds_toArray, List.set_cons_zero, List.set_cons_succ]
                refine wpAny_take (i := 17) (v := ?_) rfl (by kernel_rfl) (by kernel_rfl) (by kernel_rfl) (fun _ _ _ h => h) (Or.inl ⟨by rfl, ?_⟩) ?_
                case refine_2 => (intro w; go_simp; first | done | with_reducible rfl)
                try simp only [Act.put, List.getElem_toArray, List.getElem_cons_zero, List.getElem_cons_succ, List.setIfInBounds_toArray, List.set_cons_zero, List.set_cons_succ]
                refine wpAny_done (by kernel_rfl) ?_ _
                have hR9 := Lib.hid (hrows.out.below (Below.on hw5.out hS4.out))
                have hB9 := Lib.hid (hB.out.trans ((Below.on hw5.out hS4.out).mono hB.out.size))
                have hs9 := hB9.out.size
                have hsz9 : (12 : Int) + (s : Nat) + 4 = ((s + 16 : Nat) : Int) := by omega
                have hstep := Lib.hid (hat.out.step hnext.out)
                have hlim : a + (s + 16) ≤ n := by omega
                go_wp2_with fail
                refine (wown_at (some ⟨b, o + a + 12, none⟩) s (cr - 12) body _ hbl.out (by omega) (hbR.out.below (Below.on hw5.out hS4.out))).mono ?_
                rintro e w10 ⟨v10, rfl, ho10, hb10⟩
                obtain ⟨p10, c10, rfl, _⟩ := ho10.form
                replace ho10 := Lib.hid ho10
                replace hb10 := Lib.hid hb10
                go_wp2_with (at_builtin; go_loud (refine row_list rfl _ _ rfl w3.heap.size _ (.slice p10 body.length c10) ls xs body rfl hR9.out (hb10.out.alloc hb10.out.size _) (ho10.out.below (Below.alloc_ (Below.refl _ _) _)) _ rfl (World.news_of_block (cs := #[.slice p10 body.length c10]) (t := 23) (fr := (0, 0)) (heap_alloc_new w10 _)) rfl (by omega) hs9 ?_))
                intro v11 w11 hR11 hB11
                replace hR11 := Lib.hid hR11
                replace hB11 := Lib.hid hB11
                go_wp2
                go_roundw
                case rel => exact ⟨ls ++ [body], xs ++ [.slice p10 body.length c10], a + (body.length + 16), by rw [hbl.out]; go_num, hstep.out, hR11.out, (hB9.out.trans ((hb10.out.alloc hb10.out.size _).mono hs9)).trans hB11.out⟩
                case measure => simp [intOf]; omega
              · have hD2' := Lib.hid (show pfxB ((data.drop a).drop (12 + s)) (le32 (crc body)) = false by simpa using hD2)
                clear hD2
                have hnone := Lib.hid (show nextB ls.length (data.drop a) = none by
                  unfold nextB
                  rw [if_neg (by rw [hdl.out, ← hs.out]; omega), if_neg (by rw [hlook.out, ← hs.out, ← hbody.out, hD2'.out]; simp)])
                refine wp_region_any (by kernel_rfl) ?_
                change wpAny _ _ _ _ _ _ _ (World.drew _)
                refine wpAny_take (i := 0) (v := ?_) rfl (by kernel_rfl) (by kernel_rfl) (by kernel_rfl) (fun _ _ _ h => h) (Or.inl ⟨by rfl, ?_⟩) ?_
                case refine_2 => (intro w; go_simp; first | done | with_reducible rfl)
                try simp only [Act.put, List.getElem_toArray, List.getElem_cons_zero, List.getElem_cons_succ, List.setIfInBounds_toArray, List.set_cons_zero, List.set_cons_succ]
                refine wpAny_take (i := 1) (v := ?_) rfl (by kernel_rfl) (by kernel_rfl) (by kernel_rfl) (fun _ _ _ h => h) (Or.inl ⟨by rfl, ?_⟩) ?_
                case refine_2 => (intro w; go_simp; first | done | with_reducible rfl)
                try simp only [Act.put, List.getElem_toArray, List.getElem_cons_zero, List.getElem_cons_succ, List.setIfInBounds_toArray, List.set_cons_zero, List.set_cons_succ]
                refine wpAny_take (i := 2) (v := ?_) rfl (by kernel_rfl) (by kernel_rfl) (by kernel_rfl) (fun _ _ _ h => h) (Or.inl ⟨by rfl, ?_⟩) ?_
                case refine_2 => (intro w; go_simp; first | done | with_reducible rfl)
                try simp only [Act.put, List.getElem_toArray, List.getElem_cons_zero, List.getElem_cons_succ, List.setIfInBounds_toArray, List.set_cons_zero, List.set_cons_succ]
                refine wpAny_take (i := 3) (v := ?_) rfl (by kernel_rfl) (by kernel_rfl) (by kernel_rfl) (fun _ _ _ h => h) (Or.inl ⟨by rfl, ?_⟩) ?_
                case refine_2 => (intro w; go_simp; first | done | with_reducible rfl)
                try simp only [Act.put, List.getElem_toArray, List.getElem_cons_zero, List.getElem_cons_succ, List.setIfInBounds_toArray, List.set_cons_zero, List.set_cons_succ]
                refine wpAny_ready (rs := [4]) (by kernel_rfl) (by simp) ?_
                refine AllReady.cons rfl (fun K hK => ?_) AllReady.nil
                go_simp
                go_wp2_with ((go_at_call 22; (with_reducible refine (sum_at (some ⟨b, o + a, none⟩) 8 cr _ _ h8l.out (by unfold maxLen; omega) (h8R.out.below (Below.on hw5.out (Below.refl _ _).drew)) h8Y.out (hT5.out.below (Nat.le_refl _) (Below.refl _ _).drew)).mono ?_); rintro e w6 ⟨rfl, rfl⟩))
                have hS0 := Lib.hid (show Below w5.heap.size w5 w5.drew from (Below.refl _ _).drew)
                refine wpAny_ready (rs := [5]) (by kernel_rfl) (by simp) ?_
                refine AllReady.cons rfl (fun K hK => ?_) AllReady.nil
                go_simp
                go_wp2_with ((go_at_call 21; (with_reducible refine (little32_nil _ _ (crc_lt _)).mono ?_); rintro e w6 ⟨q6, d6, rfl, hq6, hb6⟩; have hS1 := Lib.hid (Below.on hS0.out hb6); replace hq6 := Lib.hid hq6; clear hb6))
                refine wpAny_ready (rs := [6]) (by kernel_rfl) (by simp) ?_
                refine AllReady.cons rfl (fun K hK => ?_) AllReady.nil
                go_simp
                go_wp2_with ((go_at_call 32; (with_reducible refine (starts_is (some ⟨b, o + a + 8, none⟩) q6 (r - 8) (cr - 8) 4 d6 ((data.drop a).drop 8) (le32 (crc ((data.drop a).take 8))) _ true hD1'.out (by rw [List.length_drop, hdl.out]) rfl (by omega) (by unfold maxLen; omega) ((hR.out.below (Below.on hw5.out hS1.out)).dropAt 8) hq6.out).mono ?_); rintro e w7 ⟨rfl, hb6⟩; have hS2 := Lib.hid (Below.on hS1.out hb6); clear hb6))
                refine wpAny_take (i := 7) (v := ?_) rfl (by kernel_rfl) (by kernel_rfl) (by kernel_rfl) (fun _ _ _ h => h) (Or.inl ⟨by rfl, ?_⟩) ?_
                case refine_2 => (intro w; go_simp; first | done | with_reducible rfl)
                try simp only [Act.put, List.getElem_toArray, List.getElem_cons_zero, List.getElem_cons_succ, List.setIfInBounds_toArray, List.set_cons_zero, List.set_cons_succ]
                refine wpAny_take (i := 8) (v := ?_) rfl (by kernel_rfl) (by kernel_rfl) (by kernel_rfl) (fun _ _ _ h => h) (Or.inl ⟨by rfl, ?_⟩) ?_
                case refine_2 => (intro w; go_simp; first | done | with_reducible rfl)
                try simp only [Act.put, List.getElem_toArray, List.getElem_cons_zero, List.getElem_cons_succ, List.setIfInBounds_toArray, List.set_cons_zero, List.set_cons_succ]
                refine wpAny_take (i := 9) (v := ?_) rfl (by kernel_rfl) (by kernel_rfl) (by kernel_rfl) (fun _ _ _ h => h) (Or.inl ⟨by rfl, ?_⟩) ?_
                case refine_2 => (intro w; go_simp; first | done | with_reducible rfl)
                try simp only [Act.put, List.getElem_toArray, List.getElem_cons_zero, List.getElem_cons_succ, List.setIfInBounds_toArray, List.set_cons_zero, List.set_cons_succ]
                refine wpAny_take (i := 10) (v := ?_) rfl (by kernel_rfl) (by kernel_rfl) (by kernel_rfl) (fun _ _ _ h => h) (Or.inl ⟨by rfl, ?_⟩) ?_
                case refine_2 => (intro w; go_simp; first | done | with_reducible rfl)
                try simp only [Act.put, List.getElem_toArray, List.getElem_cons_zero, List.getElem_cons_succ, List.setIfInBounds_toArray, List.set_cons_zero, List.set_cons_succ]
                refine wpAny_take (i := 11) (v := ?_) rfl (by kernel_rfl) (by kernel_rfl) (by kernel_rfl) (fun _ _ _ h => h) (Or.inl ⟨by rfl, ?_⟩) ?_
                case refine_2 => (intro w; go_simp; first | done | with_reducible rfl)
                try simp only [Act.put, List.getElem_toArray, List.getElem_cons_zero, List.getElem_cons_succ, List.setIfInBounds_toArray, List.set_cons_zero, List.set_cons_succ]
                refine wpAny_take (i := 12) (v := ?_) rfl (by kernel_rfl) (by kernel_rfl) (by kernel_rfl) (fun _ _ _ h => h) (Or.inl ⟨by rfl, ?_⟩) ?_
                case refine_2 => (intro w; go_simp; first | done | with_reducible rfl)
                try simp only [Act.put, List.getElem_toArray, List.getElem_cons_zero, List.getElem_cons_succ, List.setIfInBounds_toArray, List.set_cons_zero, List.set_cons_succ]
                refine wpAny_ready (rs := [13]) (by kernel_rfl) (by simp) ?_
                refine AllReady.cons rfl (fun K hK => ?_) AllReady.nil
                go_simp
                go_wp2_with ((go_at_call 22; (with_reducible refine (sum_at (some ⟨b, o + a + 12, none⟩) s (cr - 12) body _ hbl.out (by unfold maxLen; omega) (hbR.out.below (Below.on hw5.out hS2.out)) hbY.out (hT5.out.below (Nat.le_refl _) hS2.out)).mono ?_); rintro e w8 ⟨rfl, rfl⟩))
                refine wpAny_ready (rs := [14]) (by kernel_rfl) (by simp) ?_
                refine AllReady.cons rfl (fun K hK => ?_) AllReady.nil
                go_simp
                go_wp2_with ((go_at_call 21; (with_reducible refine (little32_nil _ _ (crc_lt _)).mono ?_); rintro e w8 ⟨q8, d8, rfl, hq8, hb6⟩; have hS3 := Lib.hid (Below.on hS2.out hb6); replace hq8 := Lib.hid hq8; clear hb6))
                refine wpAny_ready (rs := [15]) (by kernel_rfl) (by simp) ?_
                refine AllReady.cons rfl (fun K hK => ?_) AllReady.nil
                go_simp
                go_wp2_with ((go_at_call 32; (with_reducible refine (starts_is (some ⟨b, o + a + (12 + s), none⟩) q8 (r - (12 + s)) (cr - (12 + s)) 4 d8 ((data.drop a).drop (12 + s)) (le32 (crc body)) _ false hD2'.out (by rw [List.length_drop, hdl.out]) rfl (by omega) (by unfold maxLen; omega) ((hR.out.below (Below.on hw5.out hS3.out)).dropAt (12 + s)) hq8.out).mono ?_); rintro e w9 ⟨rfl, hb6⟩; have hS4 := Lib.hid (Below.on hS3.out hb6); clear hb6))
                refine wpAny_take (i := 16) (v := ?_) rfl (by kernel_rfl) (by kernel_rfl) (by kernel_rfl) (fun _ _ _ h => h) (Or.inl ⟨by rfl, ?_⟩) ?_
                case refine_2 => (intro w; go_simp; first | done | with_reducible rfl)
                try simp only [Act.put, List.getElem_toArray, List.getElem_cons_zero, List.getElem_cons_succ, List.setIfInBounds_toArray, List.set_cons_zero, List.set_cons_succ]
                refine wpAny_take (i := 17) (v := ?_) rfl (by kernel_rfl) (by kernel_rfl) (by kernel_rfl) (fun _ _ _ h => h) (Or.inl ⟨by rfl, ?_⟩) ?_
                case refine_2 => (intro w; go_simp; first | done | with_reducible rfl)
                try simp only [Act.put, List.getElem_toArray, List.getElem_cons_zero, List.getElem_cons_succ, List.setIfInBounds_toArray, List.set_cons_zero, List.set_cons_succ]
                refine wpAny_done (by kernel_rfl) ?_ _
                have hdone := Lib.hid (hat.out.done hnone.out)
                have hfb := Lib.hid (Below.on hw5.out hS4.out)
                by_cases hfin : ls.length < k
                · have hz := Lib.hid (hno.out (by rw [hdone.out, ← hk.out]; exact hfin))
                  have hfin' : ((ls.length : Nat) : Int) < (k : Nat) := by omega
                  go_wp2
                  try rw [Exit.noGoto_ret]
                  refine bodyPost_ret (v := .tuple #[.int .i64 0, .slice none 0 0, .int .i64 0, .int .i64 167]) (by simp [results, Tryd.results13, go_sem]) rfl ?_
                  exact .inl ⟨hz.out, rfl, Below.on hwr.out hfb.out⟩
                · have hz := Lib.hid (hn.out (by rw [hdone.out, ← hk.out]; omega))
                  have hfin' : ¬ ((ls.length : Nat) : Int) < (k : Nat) := by omega
                  go_wp2
                  try rw [Exit.noGoto_ret]
                  refine bodyPost_ret (v := .tuple #[.int .i64 k, .slice pv ls.length cv, .int .i64 a, .int .i64 0]) (by simp [results, Tryd.results13, go_sem]) rfl ?_
                  exact .inr ⟨k, ls, _, xs, by rw [hz.out, hdone.out, hk.out], by rw [hat.out.1], ((hrows.out.below hfb.out).mono hw3.out.size), Below.on hwr.out hfb.out⟩
            · have hD1' : pfxB ((data.drop a).drop 8) (le32 (crc ((data.drop a).take 8))) = false := by simpa using hD1
              have hnone := Lib.hid (show nextB ls.length (data.drop a) = none by
                unfold nextB
                rw [if_neg (by rw [hdl.out, ← hs.out]; omega), if_neg (by rw [hlook.out, hD1']; simp)])
              replace hD1' := Lib.hid hD1'
              clear hD1
              refine wp_region_any (by kernel_rfl) ?_
              change wpAny _ _ _ _ _ _ _ (World.drew _)
              refine wpAny_take (i := 0) (v := ?_) rfl (by kernel_rfl) (by kernel_rfl) (by kernel_rfl) (fun _ _ _ h => h) (Or.inl ⟨by rfl, ?_⟩) ?_
              case refine_2 => (intro w; go_simp; first | done | with_reducible rfl)
              try simp only [Act.put, List.getElem_toArray, List.getElem_cons_zero, List.getElem_cons_succ, List.setIfInBounds_toArray, List.set_cons_zero, List.set_cons_succ]
              refine wpAny_take (i := 1) (v := ?_) rfl (by kernel_rfl) (by kernel_rfl) (by kernel_rfl) (fun _ _ _ h => h) (Or.inl ⟨by rfl, ?_⟩) ?_
              case refine_2 => (intro w; go_simp; first | done | with_reducible rfl)
              try simp only [Act.put, List.getElem_toArray, List.getElem_cons_zero, List.getElem_cons_succ, List.setIfInBounds_toArray, List.set_cons_zero, List.set_cons_succ]
              refine wpAny_take (i := 2) (v := ?_) rfl (by kernel_rfl) (by kernel_rfl) (by kernel_rfl) (fun _ _ _ h => h) (Or.inl ⟨by rfl, ?_⟩) ?_
              case refine_2 => (intro w; go_simp; first | done | with_reducible rfl)
              try simp only [Act.put, List.getElem_toArray, List.getElem_cons_zero, List.getElem_cons_succ, List.setIfInBounds_toArray, List.set_cons_zero, List.set_cons_succ]
              refine wpAny_take (i := 3) (v := ?_) rfl (by kernel_rfl) (by kernel_rfl) (by kernel_rfl) (fun _ _ _ h => h) (Or.inl ⟨by rfl, ?_⟩) ?_
              case refine_2 => (intro w; go_simp; first | done | with_reducible rfl)
              try simp only [Act.put, List.getElem_toArray, List.getElem_cons_zero, List.getElem_cons_succ, List.setIfInBounds_toArray, List.set_cons_zero, List.set_cons_succ]
              refine wpAny_ready (rs := [4]) (by kernel_rfl) (by simp) ?_
              refine AllReady.cons rfl (fun K hK => ?_) AllReady.nil
              go_simp
              go_wp2_with ((go_at_call 22; (with_reducible refine (sum_at (some ⟨b, o + a, none⟩) 8 cr _ _ h8l.out (by unfold maxLen; omega) (h8R.out.below (Below.on hw5.out (Below.refl _ _).drew)) h8Y.out (hT5.out.below (Nat.le_refl _) (Below.refl _ _).drew)).mono ?_); rintro e w6 ⟨rfl, rfl⟩))
              have hS0 := Lib.hid (show Below w5.heap.size w5 w5.drew from (Below.refl _ _).drew)
              refine wpAny_ready (rs := [5]) (by kernel_rfl) (by simp) ?_
              refine AllReady.cons rfl (fun K hK => ?_) AllReady.nil
              go_simp
              go_wp2_with ((go_at_call 21; (with_reducible refine (little32_nil _ _ (crc_lt _)).mono ?_); rintro e w6 ⟨q6, d6, rfl, hq6, hb6⟩; have hS1 := Lib.hid (Below.on hS0.out hb6); replace hq6 := Lib.hid hq6; clear hb6))
              refine wpAny_ready (rs := [6]) (by kernel_rfl) (by simp) ?_
              refine AllReady.cons rfl (fun K hK => ?_) AllReady.nil
              go_simp
              go_wp2_with ((go_at_call 32; (with_reducible refine (starts_is (some ⟨b, o + a + 8, none⟩) q6 (r - 8) (cr - 8) 4 d6 ((data.drop a).drop 8) (le32 (crc ((data.drop a).take 8))) _ false hD1'.out (by rw [List.length_drop, hdl.out]) rfl (by omega) (by unfold maxLen; omega) ((hR.out.below (Below.on hw5.out hS1.out)).dropAt 8) hq6.out).mono ?_); rintro e w7 ⟨rfl, hb6⟩; have hS2 := Lib.hid (Below.on hS1.out hb6); clear hb6))
              refine wpAny_take (i := 7) (v := ?_) rfl (by kernel_rfl) (by kernel_rfl) (by kernel_rfl) (fun _ _ _ h => h) (Or.inl ⟨by rfl, ?_⟩) ?_
              case refine_2 => (intro w; go_simp; first | done | with_reducible rfl)
              try simp only [Act.put, List.getElem_toArray, List.getElem_cons_zero, List.getElem_cons_succ, List.setIfInBounds_toArray, List.set_cons_zero, List.set_cons_succ]
              refine wpAny_take (i := 8) (v := ?_) rfl (by kernel_rfl) (by kernel_rfl) (by kernel_rfl) (fun _ _ _ h => h) (Or.inl ⟨by rfl, ?_⟩) ?_
              case refine_2 => (intro w; go_simp; first | done | with_reducible rfl)
              try simp only [Act.put, List.getElem_toArray, List.getElem_cons_zero, List.getElem_cons_succ, List.setIfInBounds_toArray, List.set_cons_zero, List.set_cons_succ]
              refine wpAny_take (i := 9) (v := undef) rfl (by kernel_rfl) (by kernel_rfl) (by kernel_rfl) (fun _ _ _ h => h) (Or.inr ⟨by kernel_rfl, rfl⟩) ?_
              try simp only [Act.put, List.getElem_toArray, List.getElem_cons_zero, List.getElem_cons_succ, List.setIfInBounds_toArray, List.set_cons_zero, List.set_cons_succ]
              refine wpAny_take (i := 10) (v := undef) rfl (by kernel_rfl) (by kernel_rfl) (by kernel_rfl) (fun _ _ _ h => h) (Or.inr ⟨by kernel_rfl, rfl⟩) ?_
              try simp only [Act.put, List.getElem_toArray, List.getElem_cons_zero, List.getElem_cons_succ, List.setIfInBounds_toArray, List.set_cons_zero, List.set_cons_succ]
              refine wpAny_take (i := 11) (v := undef) rfl (by kernel_rfl) (by kernel_rfl) (by kernel_rfl) (fun _ _ _ h => h) (Or.inr ⟨by kernel_rfl, rfl⟩) ?_
              try simp only [Act.put, List.getElem_toArray, List.getElem_cons_zero, List.getElem_cons_succ, List.setIfInBounds_toArray, List.set_cons_zero, List.set_cons_succ]
              refine wpAny_take (i := 12) (v := undef) rfl (by kernel_rfl) (by kernel_rfl) (by kernel_rfl) (fun _ _ _ h => h) (Or.inr ⟨by kernel_rfl, rfl⟩) ?_
              try simp only [Act.put, List.getElem_toArray, List.getElem_cons_zero, List.getElem_cons_succ, List.setIfInBounds_toArray, List.set_cons_zero, List.set_cons_succ]
              refine wpAny_take (i := 13) (v := undef) rfl (by kernel_rfl) (by kernel_rfl) (by kernel_rfl) (fun _ _ _ h => h) (Or.inr ⟨by kernel_rfl, rfl⟩) ?_
              try simp only [Act.put, List.getElem_toArray, List.getElem_cons_zero, List.getElem_cons_succ, List.setIfInBounds_toArray, List.set_cons_zero, List.set_cons_succ]
              refine wpAny_take (i := 14) (v := undef) rfl (by kernel_rfl) (by kernel_rfl) (by kernel_rfl) (fun _ _ _ h => h) (Or.inr ⟨by kernel_rfl, rfl⟩) ?_
              try simp only [Act.put, List.getElem_toArray, List.getElem_cons_zero, List.getElem_cons_succ, List.setIfInBounds_toArray, List.set_cons_zero, List.set_cons_succ]
              refine wpAny_take (i := 15) (v := undef) rfl (by kernel_rfl) (by kernel_rfl) (by kernel_rfl) (fun _ _ _ h => h) (Or.inr ⟨by kernel_rfl, rfl⟩) ?_
              try simp only [Act.put, List.getElem_toArray, List.getElem_cons_zero, List.getElem_cons_succ, List.setIfInBounds_toArray, List.set_cons_zero, List.set_cons_succ]
              refine wpAny_take (i := 16) (v := undef) rfl (by kernel_rfl) (by kernel_rfl) (by kernel_rfl) (fun _ _ _ h => h) (Or.inr ⟨by kernel_rfl, rfl⟩) ?_
              try simp only [Act.put, List.getElem_toArray, List.getElem_cons_zero, List.getElem_cons_succ, List.setIfInBounds_toArray, List.set_cons_zero, List.set_cons_succ]
              refine wpAny_take (i := 17) (v := ?_) rfl (by kernel_rfl) (by kernel_rfl) (by kernel_rfl) (fun _ _ _ h => h) (Or.inl ⟨by rfl, ?_⟩) ?_
              case refine_2 => (intro w; go_simp; first | done | with_reducible rfl)
              try simp only [Act.put, List.getElem_toArray, List.getElem_cons_zero, List.getElem_cons_succ, List.setIfInBounds_toArray, List.set_cons_zero, List.set_cons_succ]
              refine wpAny_done (by kernel_rfl) ?_ _
              have hdone := Lib.hid (hat.out.done hnone.out)
              have hfb := Lib.hid (Below.on hw5.out hS2.out)
              by_cases hfin : ls.length < k
              · have hz := Lib.hid (hno.out (by rw [hdone.out, ← hk.out]; exact hfin))
                have hfin' : ((ls.length : Nat) : Int) < (k : Nat) := by omega
                go_wp2
                try rw [Exit.noGoto_ret]
                refine bodyPost_ret (v := .tuple #[.int .i64 0, .slice none 0 0, .int .i64 0, .int .i64 167]) (by simp [results, Tryd.results13, go_sem]) rfl ?_
                exact .inl ⟨hz.out, rfl, Below.on hwr.out hfb.out⟩
              · have hz := Lib.hid (hn.out (by rw [hdone.out, ← hk.out]; omega))
                have hfin' : ¬ ((ls.length : Nat) : Int) < (k : Nat) := by omega
                go_wp2
                try rw [Exit.noGoto_ret]
                refine bodyPost_ret (v := .tuple #[.int .i64 k, .slice pv ls.length cv, .int .i64 a, .int .i64 0]) (by simp [results, Tryd.results13, go_sem]) rfl ?_
                exact .inr ⟨k, ls, _, xs, by rw [hz.out, hdone.out, hk.out], by rw [hat.out.1], ((hrows.out.below hfb.out).mono hw3.out.size), Below.on hwr.out hfb.out⟩
          · have hC' : ¬ ((z : Nat) : Int) = (ls.length : Nat) := by omega
            have hnone := Lib.hid (show nextB ls.length (data.drop a) = none by
              unfold nextB
              rw [if_neg (by rw [hdl.out, ← hs.out]; omega), if_neg (by rw [hlook.out, ← hz.out, decide_eq_false hC]; simp)])
            have hdone := Lib.hid (hat.out.done hnone.out)
            have hfb := Lib.hid hw5.out
            by_cases hfin : ls.length < k
            · have hz := Lib.hid (hno.out (by rw [hdone.out, ← hk.out]; exact hfin))
              have hfin' : ((ls.length : Nat) : Int) < (k : Nat) := by omega
              go_wp2
              try rw [Exit.noGoto_ret]
              refine bodyPost_ret (v := .tuple #[.int .i64 0, .slice none 0 0, .int .i64 0, .int .i64 167]) (by simp [results, Tryd.results13, go_sem]) rfl ?_
              exact .inl ⟨hz.out, rfl, Below.on hwr.out hfb.out⟩
            · have hz := Lib.hid (hn.out (by rw [hdone.out, ← hk.out]; omega))
              have hfin' : ¬ ((ls.length : Nat) : Int) < (k : Nat) := by omega
              go_wp2
              try rw [Exit.noGoto_ret]
              refine bodyPost_ret (v := .tuple #[.int .i64 k, .slice pv ls.length cv, .int .i64 a, .int .i64 0]) (by simp [results, Tryd.results13, go_sem]) rfl ?_
              exact .inr ⟨k, ls, _, xs, by rw [hz.out, hdone.out, hk.out], by rw [hat.out.1], ((hrows.out.below hfb.out).mono hw3.out.size), Below.on hwr.out hfb.out⟩
end Go.Proofs.YtfapaehjmbekpaaDoor
