import Derived.Test.YtehmbcpgendkjaaDoorCount
import Derived.Test.YtehmbcpgendkjaaDoorNot
import Derived.LoopTactic
namespace Go.Proofs.YtehmbcpgendkjaaDoor
open Go.RowKit
set_option linter.unusedSimpArgs false
set_option linter.unusedVariables false
theorem or_with (s k : Nat) (hs : s < 4294967296) (hk : k < 32) : bits .or .u32 (s : Int) ((2 : Int) ^ k % 4294967296) = (withB s k : Nat) := by
  have h2 : 2 ^ k < 2 ^ 32 := Nat.pow_lt_pow_right (by decide) hk
  have h2' : 2 ^ k < 4294967296 := by simpa using h2
  have h3 : (2 : Int) ^ k % 4294967296 = ((2 ^ k : Nat) : Int) := by
    rw [show ((2 : Int) ^ k) = ((2 ^ k : Nat) : Int) from by simp]
    exact Int.emod_eq_of_lt (Int.natCast_nonneg _) (Int.ofNat_lt.2 h2')
  rw [h3, or_u32 s (2 ^ k) hs h2']
  unfold withB
  rw [if_pos (by omega)]
  simp
theorem and_has (s k : Nat) (hs : s < 4294967296) (hk : k < 32) : (bits .and .u32 ((s : Int) / 2 ^ k) 1 == 1) = hasB s k := by
  have h3 : (s : Int) / 2 ^ k = ((s / 2 ^ k : Nat) : Int) := by simp
  have h4 : s / 2 ^ k < 4294967296 := Nat.lt_of_le_of_lt (Nat.div_le_self _ _) hs
  have e : bits .and .u32 ((s / 2 ^ k : Nat) : Int) ((1 : Nat) : Int) = ((s / 2 ^ k &&& 1 : Nat) : Int) := and_u32 _ 1 h4 (by omega)
  rw [h3, show (1 : Int) = ((1 : Nat) : Int) from rfl, e]
  unfold hasB
  rw [decide_eq_true (by omega : (0 : Int) ≤ (k : Int) ∧ (k : Int) ≤ 31), Bool.true_and, Int.toNat_natCast, Nat.testBit_eq_decide_div_mod_eq, Nat.and_one_is_mod]
  rw [Bool.eq_iff_iff]
  simp
  omega
theorem with_in (s k : Nat) (w : World) (hs : s < 4294967296) (hk : k < 32) : Calls Tryd.prog 11 #[.int .u32 s, .int .i64 k] w fun e w' => e = .returned (.int .u32 (withB s k : Nat)) ∧ w = w' := by
  have h1 : ¬ (31 : Int) < (k : Int) := by omega
  have E := Lib.hid (or_with s k hs hk)
  go_enter Tryd.func11, Tryd.ntmps11
  go_wp2
  go_ret
  exact ⟨by rw [← E.out]; rfl, rfl⟩
theorem with_out (s : Nat) (n : Int) (w : World) (hn : ¬ (0 ≤ n ∧ n ≤ 31)) : Calls Tryd.prog 11 #[.int .u32 s, .int .i64 n] w fun e w' => e = .returned (.int .u32 (withB s n : Nat)) ∧ w = w' := by
  have e : withB s n = s := by unfold withB; rw [if_neg hn]
  rw [e]
  by_cases h0 : n < 0
  · go_enter Tryd.func11, Tryd.ntmps11
    go_wp2
    go_ret
    exact ⟨rfl, rfl⟩
  · have h1 : 31 < n := by omega
    clear hn
    go_enter Tryd.func11, Tryd.ntmps11
    go_wp2
    go_ret
    exact ⟨rfl, rfl⟩
theorem with_any (s : Nat) (n : Int) (w : World) (hs : s < 4294967296) : Calls Tryd.prog 11 #[.int .u32 s, .int .i64 n] w fun e w' => e = .returned (.int .u32 (withB s n : Nat)) ∧ w = w' := by
  by_cases hn : 0 ≤ n ∧ n ≤ 31
  · obtain ⟨k, rfl⟩ : ∃ k : Nat, n = k := ⟨n.toNat, by omega⟩
    exact with_in s k w hs (by omega)
  · exact with_out s n w hn
theorem rwith_in (s k : Nat) (w : World) (hs : s < 4294967296) (hk : k < 32) : Calls Tryd.prog 12 #[.int .u32 s, .int .i64 k] w fun e w' => e = .returned (.int .u32 (withB s k : Nat)) ∧ w = w' := by
  have h1 : ¬ (31 : Int) < (k : Int) := by omega
  have E := Lib.hid (or_with s k hs hk)
  go_enter Tryd.func12, Tryd.ntmps12
  go_wp2
  go_ret
  exact ⟨by rw [← E.out]; rfl, rfl⟩
theorem rwith_out (s : Nat) (n : Int) (w : World) (hn : ¬ (0 ≤ n ∧ n ≤ 31)) : Calls Tryd.prog 12 #[.int .u32 s, .int .i64 n] w fun e w' => e = .returned (.int .u32 (withB s n : Nat)) ∧ w = w' := by
  have e : withB s n = s := by unfold withB; rw [if_neg hn]
  rw [e]
  by_cases h0 : n < 0
  · go_enter Tryd.func12, Tryd.ntmps12
    go_wp2
    go_ret
    exact ⟨rfl, rfl⟩
  · have h1 : 31 < n := by omega
    clear hn
    go_enter Tryd.func12, Tryd.ntmps12
    go_wp2
    go_ret
    exact ⟨rfl, rfl⟩
theorem rwith_any (s : Nat) (n : Int) (w : World) (hs : s < 4294967296) : Calls Tryd.prog 12 #[.int .u32 s, .int .i64 n] w fun e w' => e = .returned (.int .u32 (withB s n : Nat)) ∧ w = w' := by
  by_cases hn : 0 ≤ n ∧ n ≤ 31
  · obtain ⟨k, rfl⟩ : ∃ k : Nat, n = k := ⟨n.toNat, by omega⟩
    exact rwith_in s k w hs (by omega)
  · exact rwith_out s n w hn
theorem has_in (s k : Nat) (w : World) (hs : s < 4294967296) (hk : k < 32) : Calls Tryd.prog 13 #[.int .u32 s, .int .i64 k] w fun e w' => e = .returned (.bool (hasB s k)) ∧ w = w' := by
  have h1 : (k : Int) ≤ 31 := by omega
  have E := Lib.hid (and_has s k hs hk)
  go_enter Tryd.func13, Tryd.ntmps13
  go_wp2
  go_ret
  exact ⟨by rw [← E.out]; rfl, rfl⟩
theorem has_out (s : Nat) (n : Int) (w : World) (hn : ¬ (0 ≤ n ∧ n ≤ 31)) : Calls Tryd.prog 13 #[.int .u32 s, .int .i64 n] w fun e w' => e = .returned (.bool (hasB s n)) ∧ w = w' := by
  have e : hasB s n = false := by unfold hasB; rw [decide_eq_false hn, Bool.false_and]
  rw [e]
  by_cases h0 : n < 0
  · go_enter Tryd.func13, Tryd.ntmps13
    go_wp2
    go_ret
    exact ⟨rfl, rfl⟩
  · have h1 : 31 < n := by omega
    clear hn
    go_enter Tryd.func13, Tryd.ntmps13
    go_wp2
    go_ret
    exact ⟨rfl, rfl⟩
theorem has_any (s : Nat) (n : Int) (w : World) (hs : s < 4294967296) : Calls Tryd.prog 13 #[.int .u32 s, .int .i64 n] w fun e w' => e = .returned (.bool (hasB s n)) ∧ w = w' := by
  by_cases hn : 0 ≤ n ∧ n ≤ 31
  · obtain ⟨k, rfl⟩ : ∃ k : Nat, n = k := ⟨n.toNat, by omega⟩
    exact has_in s k w hs (by omega)
  · exact has_out s n w hn
theorem rhas_in (s k : Nat) (w : World) (hs : s < 4294967296) (hk : k < 32) : Calls Tryd.prog 14 #[.int .u32 s, .int .i64 k] w fun e w' => e = .returned (.bool (hasB s k)) ∧ w = w' := by
  have h1 : ¬ 31 < (k : Int) := by omega
  have E := Lib.hid (and_has s k hs hk)
  go_enter Tryd.func14, Tryd.ntmps14
  go_wp2
  go_ret
  exact ⟨by rw [← E.out]; rfl, rfl⟩
theorem rhas_out (s : Nat) (n : Int) (w : World) (hn : ¬ (0 ≤ n ∧ n ≤ 31)) : Calls Tryd.prog 14 #[.int .u32 s, .int .i64 n] w fun e w' => e = .returned (.bool (hasB s n)) ∧ w = w' := by
  have e : hasB s n = false := by unfold hasB; rw [decide_eq_false hn, Bool.false_and]
  rw [e]
  by_cases h0 : n < 0
  · go_enter Tryd.func14, Tryd.ntmps14
    go_wp2
    go_ret
    exact ⟨rfl, rfl⟩
  · have h1 : 31 < n := by omega
    clear hn
    go_enter Tryd.func14, Tryd.ntmps14
    go_wp2
    go_ret
    exact ⟨rfl, rfl⟩
theorem rhas_any (s : Nat) (n : Int) (w : World) (hs : s < 4294967296) : Calls Tryd.prog 14 #[.int .u32 s, .int .i64 n] w fun e w' => e = .returned (.bool (hasB s n)) ∧ w = w' := by
  by_cases hn : 0 ≤ n ∧ n ≤ 31
  · obtain ⟨k, rfl⟩ : ∃ k : Nat, n = k := ⟨n.toNat, by omega⟩
    exact rhas_in s k w hs (by omega)
  · exact rhas_out s n w hn
/-- How many members lie below k. -/
def cntTo (s k : Nat) : Nat := ((List.range k).filter s.testBit).length
theorem cntTo_zero (s : Nat) : cntTo s 0 = 0 := by simp [cntTo]
theorem cntTo_succ (s k : Nat) : cntTo s (k + 1) = cntTo s k + if s.testBit k = true then 1 else 0 := by
  unfold cntTo
  rw [List.range_succ, List.filter_append, List.length_append]
  congr 1
  by_cases h : s.testBit k = true <;> simp [List.filter_cons, h]
theorem cntTo_le (s k : Nat) : cntTo s k ≤ k := by
  have := List.length_filter_le s.testBit (List.range k)
  simpa [cntTo] using this
theorem cntTo_all (s : Nat) : cntTo s 32 = cardB s := rfl
theorem hasB_bit {s k : Nat} (hk : k < 32) : hasB s k = s.testBit k := by
  unfold hasB
  rw [decide_eq_true (by omega : (0 : Int) ≤ (k : Int) ∧ (k : Int) ≤ 31), Bool.true_and, Int.toNat_natCast]
set_option maxHeartbeats 1600000 in
theorem rcount_any (s : Nat) (w : World) (hs : s < 4294967296) : Calls Tryd.prog 16 #[.int .u32 s] w fun e w' => e = .returned (.int .i64 (cardB s : Nat)) ∧ w = w' := by
  go_enter Tryd.func16, Tryd.ntmps16
  go_wp2
  go_loop [3, 4] (fun n i => ∃ k : Nat, k ≤ 32 ∧ i = .int .i64 k ∧ n = .int .i64 (cntTo s k : Nat)) (fun _ i => 32 - (intOf i).toNat)
  case atStart => exact ⟨0, by omega, rfl, by rw [cntTo_zero]; rfl⟩
  case round =>
    obtain ⟨k, hk, rfl, rfl⟩ := hrel
    have hc := cntTo_le s k
    by_cases hlt : k < 32
    · have H := rhas_any s k w hs
      rw [hasB_bit hlt] at H
      have HC := Lib.hid (cntTo_succ s k)
      by_cases hb : s.testBit k = true
      · rw [hb] at H
        have HB := Lib.hid hb
        clear hb
        replace H := Lib.hid H
        go_wp2_with (go_at_call 14; refine H.out.mono ?_; rintro e w1 ⟨rfl, rfl⟩)
        go_round
        case rel => exact ⟨k + 1, by omega, by go_num, by rw [HC.out, if_pos HB.out]; go_num⟩
        case measure => simp [intOf]; omega
      · have hb' : s.testBit k = false := by simpa using hb
        rw [hb'] at H
        have HB := Lib.hid hb
        clear hb hb'
        replace H := Lib.hid H
        go_wp2_with (go_at_call 14; refine H.out.mono ?_; rintro e w1 ⟨rfl, rfl⟩)
        go_round
        case rel => exact ⟨k + 1, by omega, by go_num, by rw [HC.out, if_neg HB.out]; simp⟩
        case measure => simp [intOf]; omega
    · obtain rfl : k = 32 := by omega
      go_wp2
      go_ret
      exact ⟨rfl, rfl⟩
set_option maxHeartbeats 1600000 in
theorem rcross_any (s t : Nat) (w : World) (hs : s < 4294967296) (ht : t < 4294967296) : Calls Tryd.prog 18 #[.int .u32 s, .int .u32 t] w fun e w' => e = .returned (.int .i64 (crossB s t)) ∧ w = w' := by
  go_enter Tryd.func18, Tryd.ntmps18
  go_wp2
  go_loop [5] (fun i => ∃ k : Nat, k ≤ 32 ∧ i = .int .i64 k ∧ ∀ j, j < k → (s &&& t).testBit j = false) (fun i => 32 - (intOf i).toNat)
  case atStart => exact ⟨0, by omega, rfl, fun j hj => by omega⟩
  case round =>
    obtain ⟨k, hk, rfl, hlow⟩ := hrel
    have HL := Lib.hid hlow
    clear hlow
    by_cases hlt : k < 32
    · have H1 := rhas_any s k w hs
      have H2 := rhas_any t k w ht
      rw [hasB_bit hlt] at H1 H2
      have hand : (s &&& t).testBit k = (s.testBit k && t.testBit k) := Nat.testBit_and ..
      by_cases h1 : s.testBit k = true
      · rw [h1] at H1
        by_cases h2 : t.testBit k = true
        · rw [h2] at H2
          have HX : Hid (crossB s t = (k : Int)) := Lib.hid (by
            have hf := filter_first (s &&& t).testBit k HL.out (by rw [hand, h1, h2]; rfl) 32 hlt
            unfold crossB elems
            rw [hf])
          clear hand h1 h2
          replace H1 := Lib.hid H1
          replace H2 := Lib.hid H2
          go_wp2_with fail
          refine H1.out.mono ?_
          rintro e w1 ⟨rfl, rfl⟩
          go_wp2_with fail
          refine H2.out.mono ?_
          rintro e w1 ⟨rfl, rfl⟩
          go_wp2
          go_ret
          exact ⟨by rw [HX.out]; rfl, rfl⟩
        · have h2' : t.testBit k = false := by simpa using h2
          rw [h2'] at H2
          have HX : Hid ((s &&& t).testBit k = false) := Lib.hid (by rw [hand, h2', Bool.and_false])
          clear hand h1 h2 h2'
          replace H1 := Lib.hid H1
          replace H2 := Lib.hid H2
          go_wp2_with fail
          refine H1.out.mono ?_
          rintro e w1 ⟨rfl, rfl⟩
          go_wp2_with fail
          refine H2.out.mono ?_
          rintro e w1 ⟨rfl, rfl⟩
          go_wp2
          go_round
          case rel => exact ⟨k + 1, by omega, by go_num, fun j hj => by
            by_cases e : j = k
            · rw [e]; exact HX.out
            · exact HL.out j (by omega)⟩
          case measure => simp [intOf]; omega
      · have h1' : s.testBit k = false := by simpa using h1
        rw [h1'] at H1
        have HX : Hid ((s &&& t).testBit k = false) := Lib.hid (by rw [hand, h1', Bool.false_and])
        clear hand h1 h1' H2
        replace H1 := Lib.hid H1
        go_wp2_with fail
        refine H1.out.mono ?_
        rintro e w1 ⟨rfl, rfl⟩
        go_wp2
        go_round
        case rel => exact ⟨k + 1, by omega, by go_num, fun j hj => by
          by_cases e : j = k
          · rw [e]; exact HX.out
          · exact HL.out j (by omega)⟩
        case measure => simp [intOf]; omega
    · obtain rfl : k = 32 := by omega
      have HX : Hid (crossB s t = -1) := Lib.hid (by
        unfold crossB elems
        rw [List.filter_eq_nil_iff.2 (fun a ha => by rw [HL.out a (List.mem_range.1 ha)]; simp)])
      go_wp2
      go_ret
      exact ⟨by rw [HX.out]; rfl, rfl⟩
/-- The set of all replicas. -/
def allB (c : Cfg) : Nat := 2 ^ (2 * c.f + 1).toNat - 1
theorem allB_lt {c : Cfg} (h1 : 1 ≤ c.f) (h2 : c.f ≤ 3) : allB c < 4294967296 := by
  have h3 : c.f = 1 ∨ c.f = 2 ∨ c.f = 3 := by omega
  unfold allB
  rcases h3 with h | h | h <;> rw [h] <;> decide
theorem all_at (b : Nat) (c : Cfg) (w : World) (hc : w.cell? ⟨b, 10, none⟩ = some (.int .i64 (2 * c.f + 1))) (h1 : 1 ≤ c.f) (h2 : c.f ≤ 3) : Calls Tryd.prog 23 #[.pointer (some ⟨b, 0, none⟩)] w fun e w' => e = .returned (.int .u32 (allB c : Nat)) ∧ w = w' := by
  have h3 : c.f = 1 ∨ c.f = 2 ∨ c.f = 3 := by omega
  have M := nodes_at b (2 * c.f + 1) w hc (by omega)
  clear hc
  unfold allB
  rcases h3 with h | h | h <;> rw [h] at M ⊢ <;> clear h h1 h2 <;> replace M := Lib.hid M
  · go_enter Tryd.func23, Tryd.ntmps23
    go_wp2_with (go_at_call 22; refine M.out.mono ?_; rintro e w1 ⟨rfl, rfl⟩)
    go_ret
    exact ⟨rfl, rfl⟩
  · go_enter Tryd.func23, Tryd.ntmps23
    go_wp2_with (go_at_call 22; refine M.out.mono ?_; rintro e w1 ⟨rfl, rfl⟩)
    go_ret
    exact ⟨rfl, rfl⟩
  · go_enter Tryd.func23, Tryd.ntmps23
    go_wp2_with (go_at_call 22; refine M.out.mono ?_; rintro e w1 ⟨rfl, rfl⟩)
    go_ret
    exact ⟨rfl, rfl⟩
theorem all_not (p : Option Addr) (w : World) (h : NotMade w p) : Calls Tryd.prog 23 #[.pointer p] w fun e w' => e = .returned (.int .u32 0) ∧ w = w' := by
  have M := Lib.hid (nodes_not p w h)
  clear h
  go_enter Tryd.func23, Tryd.ntmps23
  go_wp2_with (go_at_call 22; refine M.out.mono ?_; rintro e w1 ⟨rfl, rfl⟩)
  go_ret
  exact ⟨rfl, rfl⟩
end Go.Proofs.YtehmbcpgendkjaaDoor
