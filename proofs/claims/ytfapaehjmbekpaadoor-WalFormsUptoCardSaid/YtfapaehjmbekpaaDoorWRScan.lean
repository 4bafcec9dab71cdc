import Derived.Test.YtfapaehjmbekpaaDoorWForm1
namespace Go.Proofs.YtfapaehjmbekpaaDoor
open Go.RowKit
set_option linter.unusedSimpArgs false
set_option linter.unusedVariables false
theorem pfx_base {file k : Nat} {data : List Int} (hk : k < 4294967296) (h : pfxB data (hdr file k) = true) : val32 (data.drop 13) = k ∧ 21 ≤ data.length := by
  have e := of_decide_eq_true (show decide _ = true from h)
  rw [hdr_len] at e
  have hl : 21 ≤ data.length := by
    have := congrArg List.length e
    rw [List.length_take, hdr_len] at this
    omega
  refine ⟨?_, hl⟩
  have h2 : data = hdr file k ++ data.drop 21 := by rw [← e]; simp
  rw [h2]
  exact hdr_base hk
/-- The base that the first k headers tell. -/
def baseTo (file : Nat) (data : List Int) (k : Nat) : Int := if pfxB data (hdr file (val32 (data.drop 13))) = true ∧ val32 (data.drop 13) < k then (val32 (data.drop 13) : Int) else -1
theorem baseTo_yes {file k : Nat} {data : List Int} (hk : k < 4294967296) (h : pfxB data (hdr file k) = true) : baseTo file data (k + 1) = (k : Int) := by
  obtain ⟨e, _⟩ := pfx_base hk h
  unfold baseTo
  rw [e, if_pos ⟨h, by omega⟩]
theorem baseTo_no {file k : Nat} {data : List Int} (h : pfxB data (hdr file k) = false) : baseTo file data (k + 1) = baseTo file data k := by
  unfold baseTo
  by_cases hp : pfxB data (hdr file (val32 (data.drop 13))) = true
  · by_cases hk : val32 (data.drop 13) < k
    · rw [if_pos ⟨hp, by omega⟩, if_pos ⟨hp, hk⟩]
    · rw [if_neg (by
        rintro ⟨_, h2⟩
        have e : val32 (data.drop 13) = k := by omega
        rw [e, h] at hp
        cases hp), if_neg (by rintro ⟨_, h2⟩; exact hk h2)]
  · rw [if_neg (fun h => hp h.1), if_neg (fun h => hp h.1)]
set_option maxRecDepth 100000 in
set_option maxHeartbeats 1600000 in
theorem rscan_file (file : Nat) (p : Option Addr) (n c : Nat) (data : List Int) (w : World) (hfi : file = 0 ∨ 4611686018427387904 < file) (hf : file < 18446744073709551616) : Calls Tryd.prog 14 #[.int .u64 file, .slice p n c] w (ScanPost file data w) := by
  have hn := Lib.hid (scan_no (file := file) (data := data) (.inr (.inr (.inl hfi))))
  replace hfi := Lib.hid hfi
  go_enter Tryd.func14, Tryd.ntmps14
  go_wp2
  go_loopw [8, 9] (fun t i wr => ∃ k : Nat, k ≤ 65 ∧ i = .int .i64 k ∧ t = .int .i64 (-1) ∧ Below w.heap.size w wr) (fun _ i _ => 65 - (intOf i).toNat)
  case atStart => exact ⟨0, by omega, rfl, rfl, Below.refl _ _⟩
  case round =>
    obtain ⟨k, hk, rfl, rfl, hB⟩ := hrel
    by_cases hlt : k < 65
    · have hlt' : ((k : Nat) : Int) ≤ 64 := by omega
      replace hB := Lib.hid hB
      go_wp2_with fail
      refine ((rheader_file file k _ hfi.out hf).mono fun e w' h => HdR.refuse h (by decide)).mono ?_
      rintro e w1 ⟨q, m, d, sp, sn, sc, rfl, hm, hq, hf, hb1⟩
      have hB1 := Lib.hid (Below.on hB.out hb1)
      replace hb1 := Lib.hid hb1
      clear hq hf
      go_wp2_with fail
      refine (rany_at _ 1 sn sc sp rfl _).mono ?_
      rintro e w2 ⟨rfl, hb2⟩
      rw [decide_eq_true (show (1 : Int) ≠ 0 ∨ 0 < sn from .inl (by decide))]
      replace hb2 := Lib.hid hb2
      go_wp2
      go_roundw
      case measure => simp [intOf]; omega
      case rel => exact ⟨k + 1, by omega, by go_num, rfl, hB1.out.trans ((show Below w1.heap.size w1 _ from (by repeat (first | with_reducible refine Below.drew ?_ | with_reducible refine below_drewN ?_ | with_reducible refine Below.alloc_ ?_ _ | with_reducible refine Below.setCell ?_ (by first | (simp; done) | (simp; omega)) _ | with_reducible exact Below.refl _ _ ))).trans (hb2.out.mono (by simp)) |>.mono hB1.out.size)⟩
    · have hlt' : ¬ ((k : Nat) : Int) ≤ 64 := by omega
      go_wp2
      refine bodyPost_ret (v := .tuple #[.int .i64 0, .slice none 0 0, .int .i64 0, .int .i64 167]) (by simp [results, Tryd.results14, go_sem]) rfl ?_
      exact .inl ⟨hn.out, rfl, hB⟩
theorem wrap_in {x : Int} (h0 : 0 ≤ x) (h1 : x < 4611686018427387904) : IntKind.i64.wrap x = x := by
  simp only [IntKind.wrap, IntKind.signed, IntKind.bits]; simp; omega
theorem lanes64 {x0 x1 x2 x3 : Nat} (h0 : x0 < 256) (h1 : x1 < 256) (h2 : x2 < 256) (h3 : x3 < 256) :
    IntKind.i64.wrap (IntKind.i64.wrap (IntKind.i64.wrap (IntKind.i64.wrap (IntKind.i64.wrap (x0 : Int) * 16777216) + IntKind.i64.wrap (IntKind.i64.wrap (x1 : Int) * 65536)) + IntKind.i64.wrap (IntKind.i64.wrap (x2 : Int) * 256)) + IntKind.i64.wrap (x3 : Int)) = ((x0 * 16777216 + x1 * 65536 + x2 * 256 + x3 : Nat) : Int) := by
  rw [wrap_in (x := (x0 : Int)) (by omega) (by omega), wrap_in (x := (x1 : Int)) (by omega) (by omega), wrap_in (x := (x2 : Int)) (by omega) (by omega), wrap_in (x := (x3 : Int)) (by omega) (by omega)]
  rw [wrap_in (x := (x0 : Int) * 16777216) (by omega) (by omega), wrap_in (x := (x1 : Int) * 65536) (by omega) (by omega), wrap_in (x := (x2 : Int) * 256) (by omega) (by omega)]
  rw [wrap_in (x := (x0 : Int) * 16777216 + (x1 : Int) * 65536) (by omega) (by omega), wrap_in (x := (x0 : Int) * 16777216 + (x1 : Int) * 65536 + (x2 : Int) * 256) (by omega) (by omega), wrap_in (by omega) (by omega)]
  omega
set_option maxRecDepth 100000 in
set_option maxHeartbeats 3200000 in
theorem rscan_ok (file : Nat) (p : Option Addr) (n c : Nat) (data : List Int) (w : World) (hl : data.length = n) (hm : n ≤ 1000000000) (hnc : n ≤ c) (hr : RdB w p data) (hY : Byt data) (hf : file ≠ 0) (hf2 : file ≤ 4611686018427387904) : Calls Tryd.prog 14 #[.int .u64 file, .slice p n c] w (ScanPost file data w) := by
  have HL := Lib.hid hl
  have HR := Lib.hid hr
  have HY := Lib.hid hY
  replace hf := Lib.hid hf
  clear hl hr hY
  go_enter Tryd.func14, Tryd.ntmps14
  go_wp2
  go_loopw [8, 9] (fun t i wr => ∃ k : Nat, k ≤ 65 ∧ i = .int .i64 k ∧ t = .int .i64 (baseTo file data k) ∧ Below w.heap.size w wr) (fun _ i _ => 65 - (intOf i).toNat)
  case atStart => exact ⟨0, by omega, rfl, by unfold baseTo; rw [if_neg (by omega)], Below.refl _ _⟩
  case round =>
    obtain ⟨k, hk, rfl, rfl, hB⟩ := hrel
    have hBY := Lib.hid (fun h h2 => baseTo_yes (file := file) (data := data) (k := k) h h2)
    have hBN := Lib.hid (fun h => baseTo_no (file := file) (data := data) (k := k) h)
    generalize hbt : baseTo file data k = B at *
    replace hbt := Lib.hid hbt
    by_cases hlt : k < 65
    · have hlt' : ((k : Nat) : Int) ≤ 64 := by omega
      replace hB := Lib.hid hB
      go_wp2_with fail
      refine (rheader_ok file k _ hf.out hf2 (by omega)).mono ?_
      rintro e w1 ⟨v, rfl, ho, hb1⟩
      obtain ⟨q, d, rfl, hq⟩ := ho.form
      rw [hdr_len]
      have hB1 := Lib.hid (Below.on hB.out hb1)
      replace hb1 := Lib.hid hb1
      replace hq := Lib.hid hq
      clear ho
      go_wp2_with fail
      refine (rany_at _ 0 0 0 none rfl _).mono ?_
      rintro e w2 ⟨rfl, hb2⟩
      rw [show decide ((0 : Int) ≠ 0 ∨ 0 < 0) = false from by decide]
      have hB2 := Lib.hid (show Below w1.heap.size w1 w2 from (show Below w1.heap.size w1 _ from (by repeat (first | with_reducible refine Below.drew ?_ | with_reducible refine below_drewN ?_ | with_reducible refine Below.alloc_ ?_ _ | with_reducible refine Below.setCell ?_ (by first | (simp; done) | (simp; omega)) _ | with_reducible exact Below.refl _ _ ))).trans (hb2.mono (by simp)))
      clear hb2
      have BG := Lib.hid (rbegins_at p q n c 21 d data (hdr file k) w2 HL.out rfl (by unfold maxLen; omega) (HR.out.below (Below.on hB1.out hB2.out)) (hq.out.below hB2.out))
      by_cases hp : pfxB data (hdr file k) = true
      · have hy := Lib.hid (hBY.out (by omega) hp)
        rw [hp] at BG
        clear hp
        go_wp2_with fail
        refine BG.out.mono ?_
        rintro e w3 ⟨rfl, hb3⟩
        replace hb3 := Lib.hid hb3
        go_wp2
        go_roundw
        case measure => simp [intOf]; omega
        case rel => exact ⟨k + 1, by omega, by go_num, by rw [hy.out], Below.on (Below.on hB1.out hB2.out) hb3.out⟩
      · have hp' : pfxB data (hdr file k) = false := by simpa using hp
        have hy := Lib.hid (hBN.out hp')
        rw [hp'] at BG
        clear hp hp'
        go_wp2_with fail
        refine BG.out.mono ?_
        rintro e w3 ⟨rfl, hb3⟩
        replace hb3 := Lib.hid hb3
        go_wp2
        go_roundw
        case measure => simp [intOf]; omega
        case rel => exact ⟨k + 1, by omega, by go_num, by rw [hy.out], Below.on (Below.on hB1.out hB2.out) hb3.out⟩
    · obtain rfl : k = 65 := by omega
      have hlt' : ¬ ((65 : Nat) : Int) ≤ 64 := by omega
      clear hBY hBN
      by_cases hgood : pfxB data (hdr file (val32 (data.drop 13))) = true ∧ val32 (data.drop 13) < 65
      · have hB0 : B = (val32 (data.drop 13) : Nat) := by rw [← hbt.out]; unfold baseTo; rw [if_pos hgood]
        obtain ⟨hp, h64⟩ := hgood
        have h21 := (pfx_base (by omega) hp).2
        rw [HL.out] at h21
        have hyes := Lib.hid (fun h6 => scan_yes (file := file) (data := data) (by rw [HL.out]; exact h21) (by omega) hf.out hf2 hp h6)
        have hno := Lib.hid (fun h6 => scan_no (file := file) (data := data) (.inr (.inr (.inr (.inr h6)))))
        obtain ⟨m, hm'⟩ : ∃ m, m = val32 (data.drop 13) := ⟨_, rfl⟩
        rw [← hm'] at hB0 h64 hyes hno
        subst hB0
        replace hm' := Lib.hid hm'
        clear hp hbt
        obtain ⟨b, o, rfl, hblt, _⟩ := HR.out.at (k := 0) (by rw [HL.out]; omega)
        replace hB := Lib.hid hB
        go_wp2
        go_loopw [12, 13] (fun t i wr => ∃ (ls : List (List Int)) (xs : List Value) (a : Nat), i = .int .i64 a ∧ ScanAt data ls a ∧ RowsX wr w.heap.size t ls xs ∧ Below w.heap.size w wr) (fun _ i _ => n - (intOf i).toNat)
        case atStart => exact ⟨[], [], 21, rfl, scanAt_start (by rw [HL.out]; exact h21), rowsX_nil _ _, hB.out⟩
        case round =>
          obtain ⟨ls, xs, a, rfl, hat, hrows, hwr⟩ := hrel
          obtain ⟨pv, cv, rfl⟩ := hrows.form
          have han : a ≤ n := by rw [← HL.out]; exact hat.2.1
          have hln : 16 * ls.length ≤ n := by rw [← HL.out]; exact hat.2.2.1
          have hdl := Lib.hid (show (data.drop a).length = n - a by rw [List.length_drop, HL.out])
          have hRw := Lib.hid (HR.out.below hwr)
          have hR := Lib.hid ((HR.out.below hwr).dropAt a)
          have hYr := Lib.hid (HY.out.drop a)
          have hszw := hwr.size
          replace hat := Lib.hid hat
          replace hrows := Lib.hid hrows
          replace hwr := Lib.hid hwr
          by_cases hA : a + 16 ≤ n
          · have hA' : ((a : Nat) : Int) + 16 ≤ (n : Nat) := by omega
            have hx : ∀ i, i < 4 → ∃ x : Nat, x < 256 ∧ wr.cell? ⟨b, o + (a + i), none⟩ = some (.int .u8 x) ∧ (data.drop a).getD i 0 = (x : Int) := fun i hi => by
              obtain ⟨b', o', e, _, hc⟩ := hRw.out.at (k := a + i) (by rw [HL.out]; omega)
              injection e with e
              injection e with e1 e2
              subst e1 e2
              have hy := HY.out (a + i) (by rw [HL.out]; omega)
              refine ⟨(data[a + i]'(by rw [HL.out]; omega)).toNat, by omega, ?_, ?_⟩
              · rw [hc]; simp; omega
              · rw [List.getD_eq_getElem?_getD, List.getElem?_drop, List.getElem?_eq_getElem (by rw [HL.out]; omega)]; simp; omega
            obtain ⟨x0, g0, c0, d0⟩ := hx 0 (by omega)
            obtain ⟨x1, g1, c1, d1⟩ := hx 1 (by omega)
            obtain ⟨x2, g2, c2, d2⟩ := hx 2 (by omega)
            obtain ⟨x3, g3, c3, d3⟩ := hx 3 (by omega)
            have hv : Hid (val32 (data.drop a) = x0 * 16777216 + x1 * 65536 + x2 * 256 + x3) := Lib.hid (by
              unfold val32
              rw [d0, d1, d2, d3]
              simp)
            rw [Nat.add_zero] at c0
            have hbw : b < wr.heap.size := Nat.lt_of_lt_of_le hblt hszw
            clear hx d0 d1 d2 d3
            have i0 : (0 : Int) ≤ (a : Int) := Int.natCast_nonneg _
            have i1 : (a : Int) < (n : Int) := by omega
            have i2 : (a : Int) + 1 < (n : Int) := by omega
            have i3 : (a : Int) + 2 < (n : Int) := by omega
            have i4 : (a : Int) + 3 < (n : Int) := by omega
            have j1 : (0 : Int) ≤ (a : Int) + 1 := by omega
            have j2 : (0 : Int) ≤ (a : Int) + 2 := by omega
            have j3 : (0 : Int) ≤ (a : Int) + 3 := by omega
            have k1 : IntKind.i64.wrap ((a : Int) + 1) = (a : Int) + 1 := by simp only [IntKind.wrap, IntKind.signed, IntKind.bits]; simp; omega
            have k2 : IntKind.i64.wrap ((a : Int) + 2) = (a : Int) + 2 := by simp only [IntKind.wrap, IntKind.signed, IntKind.bits]; simp; omega
            have k3 : IntKind.i64.wrap ((a : Int) + 3) = (a : Int) + 3 := by simp only [IntKind.wrap, IntKind.signed, IntKind.bits]; simp; omega
            have t1 : ((a : Int) + 1).toNat = a + 1 := by omega
            have t2 : ((a : Int) + 2).toNat = a + 2 := by omega
            have t3 : ((a : Int) + 3).toNat = a + 3 := by omega
            go_wp2
            refine wp_region_below (by kernel_rfl) (by kernel_rfl) ?_
            repeat first | go_big_quiet_skip | (go_big_quiet_want; go_big_quiet_op; go_big_quiet_on) | (go_big_quiet_want; rename_i K hK; apply quiet_mk; (focus (intro w1 hw1; have hc1 := (bcell hw1).1; have hf1 := (bcell hw1).2; go_simp; first | done | rfl | (fail))); refine hK _ ?_; clear hK K; try simp only [Act.put, List.setIfInBounds_toArray, List.set_cons_zero, List.set_cons_succ])
            refine wpQuiet_nil ?_
            intro wq hb_wq
            have hc_wq := (bcell hb_wq).1
            have hf_wq := (bcell hb_wq).2
            clear k1 k2 k3 t1 t2 t3 c0 c1 c2 c3 hc_wq hf_wq i1 i2 i3 i4 j1 j2 j3
            rw [lanes64 g0 g1 g2 g3]
            have hsb : x0 * 16777216 + x1 * 65536 + x2 * 256 + x3 < 4294967296 := by omega
            generalize x0 * 16777216 + x1 * 65536 + x2 * 256 + x3 = s at *
            have hwq := Lib.hid (Below.on hwr.out hb_wq)
            replace hb_wq := Lib.hid hb_wq
            clear g0 g1 g2 g3
            by_cases hB1 : 60000 < s
            · have hnone := Lib.hid (show nextB ls.length (data.drop a) = none by unfold nextB; rw [if_pos (.inr (.inl (by rw [hv.out]; exact hB1)))])
              have hB1' : (60000 : Int) < (s : Nat) := by omega
              have hdone := Lib.hid (hat.out.done hnone.out)
              have hfb := Lib.hid hb_wq.out
              by_cases hfin : ls.length < m
              · have hz := Lib.hid (hno.out (by rw [hdone.out]; exact hfin))
                have hfin' : ((ls.length : Nat) : Int) < (m : Nat) := by omega
                go_wp2
                refine bodyPost_ret (v := .tuple #[.int .i64 0, .slice none 0 0, .int .i64 0, .int .i64 167]) (by simp [results, Tryd.results14, go_sem]) rfl ?_
                exact .inl ⟨hz.out, rfl, Below.on hwr.out hfb.out⟩
              · have hz := Lib.hid (hyes.out (by rw [hdone.out]; omega))
                have hfin' : ¬ ((ls.length : Nat) : Int) < (m : Nat) := by omega
                go_wp2
                refine bodyPost_ret (v := .tuple #[.int .i64 m, .slice pv ls.length cv, .int .i64 a, .int .i64 0]) (by simp [results, Tryd.results14, go_sem]) rfl ?_
                exact .inr ⟨m, ls, _, xs, by rw [hz.out, hdone.out], by rw [hat.out.1], (hrows.out.below hfb.out), Below.on hwr.out hfb.out⟩
            · have hB1' : ¬ (60000 : Int) < (s : Nat) := by omega
              have hB1'' : ((s : Nat) : Int) ≤ 60000 := by omega
              by_cases hB2 : n < a + 16 + s
              · have hnone := Lib.hid (show nextB ls.length (data.drop a) = none by unfold nextB; rw [if_pos (.inr (.inr (by rw [hv.out, hdl.out]; omega)))])
                have hB2' : ((n : Nat) : Int) < (a : Nat) + 16 + (s : Nat) := by omega
                have hdone := Lib.hid (hat.out.done hnone.out)
                have hfb := Lib.hid hb_wq.out
                by_cases hfin : ls.length < m
                · have hz := Lib.hid (hno.out (by rw [hdone.out]; exact hfin))
                  have hfin' : ((ls.length : Nat) : Int) < (m : Nat) := by omega
                  go_wp2
                  refine bodyPost_ret (v := .tuple #[.int .i64 0, .slice none 0 0, .int .i64 0, .int .i64 167]) (by simp [results, Tryd.results14, go_sem]) rfl ?_
                  exact .inl ⟨hz.out, rfl, Below.on hwr.out hfb.out⟩
                · have hz := Lib.hid (hyes.out (by rw [hdone.out]; omega))
                  have hfin' : ¬ ((ls.length : Nat) : Int) < (m : Nat) := by omega
                  go_wp2
                  refine bodyPost_ret (v := .tuple #[.int .i64 m, .slice pv ls.length cv, .int .i64 a, .int .i64 0]) (by simp [results, Tryd.results14, go_sem]) rfl ?_
                  exact .inr ⟨m, ls, _, xs, by rw [hz.out, hdone.out], by rw [hat.out.1], (hrows.out.below hfb.out), Below.on hwr.out hfb.out⟩
              · have hB2' : ¬ ((n : Nat) : Int) < (a : Nat) + 16 + (s : Nat) := by omega
                obtain ⟨body, hbody⟩ : ∃ body, body = (data.drop (a + 12)).take s := ⟨_, rfl⟩
                have hbody2 := Lib.hid (show ((data.drop a).drop 12).take s = body by rw [hbody, List.drop_drop])
                have hbl : body.length = s := by rw [hbody, List.length_take, List.length_drop, HL.out]; omega
                have hbR := Lib.hid (show RdB wq (some ⟨b, o + (a + 12), none⟩) body by rw [hbody]; exact ((hRw.out.below hb_wq.out).dropAt (a + 12)).take s)
                have hbY := Lib.hid (show Byt body by rw [hbody]; exact (HY.out.drop (a + 12)).take s)
                have hrq := Lib.hid (hrows.out.below hb_wq.out)
                have hRq := Lib.hid (hR.out.below hb_wq.out)
                replace hbody := Lib.hid hbody
                replace hbl := Lib.hid hbl
                have hc12 : ¬ c = a + 12 := by omega
                have hca : ¬ c = a := by omega
                have l1 : ((a : Nat) : Int) + 12 ≤ ((a : Nat) : Int) + 12 + (s : Nat) := by omega
                have l2 : ((a : Nat) : Int) + 12 + (s : Nat) ≤ (c : Nat) := by omega
                have l3 : (0 : Int) ≤ ((a : Nat) : Int) + 12 := by omega
                have l4 : (((a : Nat) : Int) + 12).toNat = a + 12 := by omega
                have l5 : (((a : Nat) : Int) + 12 + (s : Nat)).toNat = a + 12 + s := by omega
                have l6 : a + 12 + s - (a + 12) = s := by omega
                go_wp2_with fail
                refine (rcopy_at (some ⟨b, o + (a + 12), none⟩) s _ body _ hbl.out (by omega) hbR.out).mono ?_
                rintro e w5 ⟨v5, rfl, ho5, hb5⟩
                obtain ⟨q5, d5, rfl, hq5, hd5, hz5⟩ := ho5.form2
                rw [hbl.out]
                rw [hbl.out] at hd5
                clear l1 l2 l3 l4 l5 l6
                have hw5 := Lib.hid (Below.on hwq.out hb5)
                have hR5 := Lib.hid (hRq.out.below hb5)
                replace hb5 := Lib.hid hb5
                replace ho5 := Lib.hid ho5
                replace hq5 := Lib.hid hq5
                clear hbR hz5
                go_wp2_with fail
                refine (rframe_ok ls.length q5 s d5 body _ (by omega) hbl.out (by omega) hq5.out hbY.out).mono ?_
                rintro e w6 ⟨v6, rfl, ho6, hb6⟩
                obtain ⟨q6, d6, rfl, hq6⟩ := ho6.form
                have hfl : (frm ls.length body).length = s + 16 := by rw [frm_len, hbl.out]
                rw [hfl]
                have hb56 := Lib.hid (Below.on hb5.out hb6)
                have ho56 := Lib.hid (ho5.out.below hb6)
                have hR6 := Lib.hid (hR5.out.below hb6)
                replace hfl := Lib.hid hfl
                replace hq6 := Lib.hid hq6
                clear ho6 hb6 ho5 hq5 hR5 hb5
                obtain ⟨r, hra⟩ : ∃ r, n - a = r := ⟨_, rfl⟩
                obtain ⟨cr, hcra⟩ : ∃ cr, c - a = cr := ⟨_, rfl⟩
                have hdr := Lib.hid (hdl.out.trans hra)
                have hrb : r ≤ maxLen := by unfold maxLen; omega
                by_cases hp : pfxB (data.drop a) (frm ls.length body) = true
                · have hnext := Lib.hid (show nextB ls.length (data.drop a) = some body by
                    unfold nextB
                    rw [hv.out, if_neg (by rw [hdl.out]; omega), hbody2.out, if_pos hp])
                  have hstep := Lib.hid (hat.out.step hnext.out)
                  have BG := Lib.hid (fun W (hW : Below w6.heap.size w6 W) => hp ▸ rbegins_at (some ⟨b, o + a, none⟩) q6 r cr (s + 16) d6 (data.drop a) (frm ls.length body) W hdr.out hfl.out hrb (hR6.out.below hW) (hq6.out.below hW))
                  clear hp
                  go_wp2_with fail
                  refine (BG.out _ (by repeat (first | with_reducible refine Below.drew ?_ | with_reducible refine below_drewN ?_ | with_reducible refine Below.alloc_ ?_ _ | with_reducible refine Below.setCell ?_ (by first | (simp; done) | (simp; omega)) _ | with_reducible exact Below.refl _ _ ))).mono ?_
                  rintro e w7 ⟨rfl, hb7⟩
                  have hb67 := Lib.hid (show Below w6.heap.size w6 w7 from (show Below w6.heap.size w6 _ from (by repeat (first | with_reducible refine Below.drew ?_ | with_reducible refine below_drewN ?_ | with_reducible refine Below.alloc_ ?_ _ | with_reducible refine Below.setCell ?_ (by first | (simp; done) | (simp; omega)) _ | with_reducible exact Below.refl _ _ ))).trans (hb7.mono (by simp)))
                  clear hb7 BG
                  have hq7 := Lib.hid (Below.on hb56.out hb67.out)
                  have ho7 := Lib.hid (show OwnB w7 wq.heap.size (.slice q5 s d5) body by have h_ := ho56.out.below hb67.out; rwa [hbl.out] at h_)
                  go_wp2_with (at_builtin; go_loud (refine row_list rfl _ _ rfl w.heap.size _ (.slice q5 s d5) ls xs body rfl hrq.out (hq7.out.alloc hq7.out.size _) (ho7.out.below (Below.alloc_ (Below.refl _ _) _)) _ rfl (World.news_of_block (cs := #[.slice q5 s d5]) (t := 23) (fr := (0, 0)) (heap_alloc_new w7 _)) rfl (by omega) hwq.out.size ?_))
                  intro v8 w8 hR8 hB8
                  have hw8 := Lib.hid (hwq.out.trans ((hq7.out.alloc hq7.out.size (Obj.cells #[.slice q5 s d5] 23)).mono hwq.out.size) |>.trans hB8)
                  replace hR8 := Lib.hid hR8
                  clear hB8
                  go_wp2
                  go_roundw
                  case rel => exact ⟨ls ++ [body], xs ++ [.slice q5 s d5], a + (body.length + 16), by rw [hbl.out]; go_num, hstep.out, hR8.out, hw8.out⟩
                  case measure => simp [intOf]; omega
                · have hp' : pfxB (data.drop a) (frm ls.length body) = false := by simpa using hp
                  have hnone := Lib.hid (show nextB ls.length (data.drop a) = none by
                    unfold nextB
                    rw [hv.out, if_neg (by rw [hdl.out]; omega), hbody2.out, if_neg (by rw [hp']; simp)])
                  have BG := Lib.hid (fun W (hW : Below w6.heap.size w6 W) => hp' ▸ rbegins_at (some ⟨b, o + a, none⟩) q6 r cr (s + 16) d6 (data.drop a) (frm ls.length body) W hdr.out hfl.out hrb (hR6.out.below hW) (hq6.out.below hW))
                  clear hp hp'
                  go_wp2_with fail
                  refine (BG.out _ (by repeat (first | with_reducible refine Below.drew ?_ | with_reducible refine below_drewN ?_ | with_reducible refine Below.alloc_ ?_ _ | with_reducible refine Below.setCell ?_ (by first | (simp; done) | (simp; omega)) _ | with_reducible exact Below.refl _ _ ))).mono ?_
                  rintro e w7 ⟨rfl, hb7⟩
                  have hb67 := Lib.hid (show Below w6.heap.size w6 w7 from (show Below w6.heap.size w6 _ from (by repeat (first | with_reducible refine Below.drew ?_ | with_reducible refine below_drewN ?_ | with_reducible refine Below.alloc_ ?_ _ | with_reducible refine Below.setCell ?_ (by first | (simp; done) | (simp; omega)) _ | with_reducible exact Below.refl _ _ ))).trans (hb7.mono (by simp)))
                  clear hb7 BG
                  have hdone := Lib.hid (hat.out.done hnone.out)
                  have hfb := Lib.hid (Below.on (Below.on hb_wq.out hb56.out) hb67.out)
                  by_cases hfin : ls.length < m
                  · have hz := Lib.hid (hno.out (by rw [hdone.out]; exact hfin))
                    have hfin' : ((ls.length : Nat) : Int) < (m : Nat) := by omega
                    go_wp2
                    refine bodyPost_ret (v := .tuple #[.int .i64 0, .slice none 0 0, .int .i64 0, .int .i64 167]) (by simp [results, Tryd.results14, go_sem]) rfl ?_
                    exact .inl ⟨hz.out, rfl, Below.on hwr.out hfb.out⟩
                  · have hz := Lib.hid (hyes.out (by rw [hdone.out]; omega))
                    have hfin' : ¬ ((ls.length : Nat) : Int) < (m : Nat) := by omega
                    go_wp2
                    refine bodyPost_ret (v := .tuple #[.int .i64 m, .slice pv ls.length cv, .int .i64 a, .int .i64 0]) (by simp [results, Tryd.results14, go_sem]) rfl ?_
                    exact .inr ⟨m, ls, _, xs, by rw [hz.out, hdone.out], by rw [hat.out.1], (hrows.out.below hfb.out), Below.on hwr.out hfb.out⟩
          · have hA' : ¬ ((a : Nat) : Int) + 16 ≤ (n : Nat) := by omega
            have hnone := Lib.hid (show nextB ls.length (data.drop a) = none from nextB_short (by rw [hdl.out]; omega))
            have hdone := Lib.hid (hat.out.done hnone.out)
            have hfb := Lib.hid (Below.refl wr.heap.size wr)
            by_cases hfin : ls.length < m
            · have hz := Lib.hid (hno.out (by rw [hdone.out]; exact hfin))
              have hfin' : ((ls.length : Nat) : Int) < (m : Nat) := by omega
              go_wp2
              refine bodyPost_ret (v := .tuple #[.int .i64 0, .slice none 0 0, .int .i64 0, .int .i64 167]) (by simp [results, Tryd.results14, go_sem]) rfl ?_
              exact .inl ⟨hz.out, rfl, Below.on hwr.out hfb.out⟩
            · have hz := Lib.hid (hyes.out (by rw [hdone.out]; omega))
              have hfin' : ¬ ((ls.length : Nat) : Int) < (m : Nat) := by omega
              go_wp2
              refine bodyPost_ret (v := .tuple #[.int .i64 m, .slice pv ls.length cv, .int .i64 a, .int .i64 0]) (by simp [results, Tryd.results14, go_sem]) rfl ?_
              exact .inr ⟨m, ls, _, xs, by rw [hz.out, hdone.out], by rw [hat.out.1], (hrows.out.below hfb.out), Below.on hwr.out hfb.out⟩
      · have hB0 : B = -1 := by rw [← hbt.out]; unfold baseTo; rw [if_neg hgood]
        have hn := Lib.hid (scan_no (file := file) (data := data) (by
          by_cases h1 : pfxB data (hdr file (val32 (data.drop 13))) = true
          · have h2 : ¬ val32 (data.drop 13) < 65 := fun h => hgood ⟨h1, h⟩
            right; left; omega
          · right; right; right; left; simpa using h1))
        subst hB0
        clear hgood hbt
        go_wp2
        refine bodyPost_ret (v := .tuple #[.int .i64 0, .slice none 0 0, .int .i64 0, .int .i64 167]) (by simp [results, Tryd.results14, go_sem]) rfl ?_
        exact .inl ⟨hn.out, rfl, hB⟩
end Go.Proofs.YtfapaehjmbekpaaDoor
