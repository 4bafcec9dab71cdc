import Derived.Test.YtehmbcpgendkjaaDoorSets
namespace Go.Proofs.YtehmbcpgendkjaaDoor
open Go.RowKit
set_option linter.unusedSimpArgs false
set_option linter.unusedVariables false
theorem cnt_and (s n : Nat) : ∀ m, n ≤ m → ((List.range m).filter (s &&& (2 ^ n - 1)).testBit).length = cntTo s n := by
  intro m
  induction m with
  | zero => intro h; obtain rfl : n = 0 := by omega
            simp [cntTo]
  | succ m ih =>
    intro h
    by_cases e : n = m + 1
    · subst e
      unfold cntTo
      congr 1
      refine List.filter_congr fun i hi => ?_
      rw [Nat.testBit_and, Nat.testBit_two_pow_sub_one, decide_eq_true (List.mem_range.1 hi), Bool.and_true]
    · rw [List.range_succ, List.filter_append, List.length_append, ih (by omega)]
      have hb : (s &&& (2 ^ n - 1)).testBit m = false := by
        rw [Nat.testBit_and, Nat.testBit_two_pow_sub_one, decide_eq_false (by omega), Bool.and_false]
      rw [List.filter_cons, hb]
      simp
theorem card_all (c : Cfg) (s : Nat) (h1 : 1 ≤ c.f) (h2 : c.f ≤ 3) : cardB (s &&& allB c) = cntTo s (2 * c.f + 1).toNat := by
  have := cnt_and s (2 * c.f + 1).toNat 32 (by omega)
  exact this
/-- Is it a majority? -/
def majB (c : Cfg) (s : Nat) : Bool := decide (c.f + 1 ≤ (cntTo s (2 * c.f + 1).toNat : Int))
theorem majority_not (p : Option Addr) (s : Nat) (w : World) (h : NotMade w p) : Calls Tryd.prog 19 #[.pointer p, .int .u32 s] w fun e w' => e = .returned (.bool false) ∧ w = w' := by
  have M := Lib.hid (made_not p w h)
  clear h
  go_enter Tryd.func19, Tryd.ntmps19
  go_wp2_with (go_at_call 54; refine M.out.mono ?_; rintro e w1 ⟨rfl, rfl⟩)
  go_ret
  exact ⟨rfl, rfl⟩
theorem majority_at (b : Nat) (c : Cfg) (s : Nat) (w : World) (hg : GrpAt w b c (2 * c.f + 1)) (h1 : 1 ≤ c.f) (h2 : c.f ≤ 3) (hs : s < 4294967296) (hT : Tab w) :
    Calls Tryd.prog 19 #[.pointer (some ⟨b, 0, none⟩), .int .u32 s] w fun e w' => e = .returned (.bool (majB c s)) ∧ Below w.heap.size w w' := by
  have M := made_at b (2 * c.f + 1) w hg.nodes
  rw [show decide (0 < 2 * c.f + 1) = true from decide_eq_true (by omega)] at M
  replace M := Lib.hid M
  have A := Lib.hid (all_at b c w hg.nodes h1 h2)
  have HA := Lib.hid (and_u32 s (allB c) hs (allB_lt h1 h2))
  have C := Lib.hid (count_any (s &&& allB c) w (and_lt _ hs) hT)
  have Q : ∀ w1, Below w.heap.size w w1 → Calls Tryd.prog 24 #[.pointer (some ⟨b, 0, none⟩)] w1 fun e w' => e = .returned (.int .i64 (c.f + 1)) ∧ w1 = w' := fun w1 hb =>
    quorum_at b (2 * c.f + 1) c.f w1 (hg.below hg.lt hb).nodes (hg.below hg.lt hb).f (by omega) (by omega) h2
  replace Q := Lib.hid Q
  have HC := Lib.hid (card_all c s h1 h2)
  have hle := cntTo_le s (2 * c.f + 1).toNat
  clear hg hT
  go_enter Tryd.func19, Tryd.ntmps19
  go_wp2_with fail
  refine M.out.mono ?_
  rintro e w1 ⟨rfl, rfl⟩
  go_wp2_with fail
  refine A.out.mono ?_
  rintro e w1 ⟨rfl, rfl⟩
  go_wp2_with fail
  rw [HA.out]
  refine C.out.mono ?_
  rintro e wa ⟨rfl, hb_wa⟩
  rw [HC.out]
  go_wp2_with fail
  refine (Q.out _ hb_wa).mono ?_
  rintro e w1 ⟨rfl, rfl⟩
  go_wp2
  go_ret
  exact ⟨rfl, hb_wa⟩
theorem rquorum_at (b : Nat) (f : Int) (w : World) (hf : w.cell? ⟨b, 0, none⟩ = some (.int .i64 f)) (h1 : 0 ≤ f) (h2 : f ≤ 3) :
    Calls Tryd.prog 31 #[.pointer (some ⟨b, 0, none⟩)] w fun e w' => e = .returned (.int .i64 (f + 1)) ∧ w = w' := by
  go_enter Tryd.func31, Tryd.ntmps31
  go_wp2
  go_ret
  exact ⟨rfl, rfl⟩
set_option maxHeartbeats 1600000 in
theorem rmajority_at (b : Nat) (c : Cfg) (s : Nat) (w : World) (hf : w.cell? ⟨b, 0, none⟩ = some (.int .i64 c.f)) (h1 : 1 ≤ c.f) (h2 : c.f ≤ 3) (hs : s < 4294967296) :
    Calls Tryd.prog 20 #[.pointer (some ⟨b, 0, none⟩), .int .u32 s] w fun e w' => e = .returned (.bool (majB c s)) ∧ w = w' := by
  have N := Lib.hid (rnodes_at b c.f w hf (by omega) h2)
  have Q := Lib.hid (rquorum_at b c.f w hf (by omega) h2)
  clear hf
  go_enter Tryd.func20, Tryd.ntmps20
  go_wp2
  go_loop [5, 6] (fun n i => ∃ k : Nat, (k : Int) ≤ 2 * c.f + 1 ∧ i = .int .i64 k ∧ n = .int .i64 (cntTo s k : Nat)) (fun _ i => (2 * c.f + 1 - intOf i).toNat)
  case atStart => exact ⟨0, by omega, rfl, by rw [cntTo_zero]; rfl⟩
  case round =>
    obtain ⟨k, hk, rfl, rfl⟩ := hrel
    have hc := cntTo_le s k
    by_cases hlt : (k : Int) < 2 * c.f + 1
    · have H := rhas_any s k w hs
      rw [hasB_bit (by omega)] at H
      have HC := Lib.hid (cntTo_succ s k)
      by_cases hb : s.testBit k = true
      · rw [hb] at H
        have HB := Lib.hid hb
        clear hb
        replace H := Lib.hid H
        go_wp2_with fail
        refine N.out.mono ?_
        rintro e w1 ⟨rfl, rfl⟩
        go_wp2_with fail
        refine H.out.mono ?_
        rintro e w1 ⟨rfl, rfl⟩
        go_wp2
        go_round
        case rel => exact ⟨k + 1, by omega, by go_num, by rw [HC.out, if_pos HB.out]; go_num⟩
        case measure => simp [intOf]; omega
      · have hb' : s.testBit k = false := by simpa using hb
        rw [hb'] at H
        have HB := Lib.hid hb
        clear hb hb'
        replace H := Lib.hid H
        go_wp2_with fail
        refine N.out.mono ?_
        rintro e w1 ⟨rfl, rfl⟩
        go_wp2_with fail
        refine H.out.mono ?_
        rintro e w1 ⟨rfl, rfl⟩
        go_wp2
        go_round
        case rel => exact ⟨k + 1, by omega, by go_num, by rw [HC.out, if_neg HB.out]; simp⟩
        case measure => simp [intOf]; omega
    · have hke : k = (2 * c.f + 1).toNat := by omega
      have HE : Hid (majB c s = decide (c.f + 1 ≤ (cntTo s k : Int))) := Lib.hid (by unfold majB; rw [hke])
      clear hke
      go_wp2_with fail
      refine N.out.mono ?_
      rintro e w1 ⟨rfl, rfl⟩
      go_wp2_with fail
      refine Q.out.mono ?_
      rintro e w1 ⟨rfl, rfl⟩
      go_wp2
      go_ret
      exact ⟨by rw [HE.out]; rfl, rfl⟩
theorem withB_ones (k : Nat) (hk : k < 32) : withB (2 ^ k - 1) (k : Int) = 2 ^ (k + 1) - 1 := by
  refine Nat.eq_of_testBit_eq fun i => ?_
  rw [withB_bit, Nat.testBit_two_pow_sub_one, Nat.testBit_two_pow_sub_one, Bool.eq_iff_iff]
  simp
  omega
set_option maxHeartbeats 1600000 in
theorem rall_at (b : Nat) (c : Cfg) (w : World) (hf : w.cell? ⟨b, 0, none⟩ = some (.int .i64 c.f)) (h1 : 1 ≤ c.f) (h2 : c.f ≤ 3) :
    Calls Tryd.prog 33 #[.pointer (some ⟨b, 0, none⟩)] w fun e w' => e = .returned (.int .u32 (allB c : Nat)) ∧ w = w' := by
  have N := Lib.hid (rnodes_at b c.f w hf (by omega) h2)
  clear hf
  go_enter Tryd.func33, Tryd.ntmps33
  go_wp2
  go_loop [3, 4] (fun n i => ∃ k : Nat, (k : Int) ≤ 2 * c.f + 1 ∧ i = .int .i64 k ∧ n = .int .u32 ((2 ^ k - 1 : Nat) : Int)) (fun _ i => (2 * c.f + 1 - intOf i).toNat)
  case atStart => exact ⟨0, by omega, rfl, rfl⟩
  case round =>
    obtain ⟨k, hk, rfl, rfl⟩ := hrel
    by_cases hlt : (k : Int) < 2 * c.f + 1
    · have hp : 2 ^ k < 2 ^ 32 := Nat.pow_lt_pow_right (by decide) (by omega)
      have H := rwith_any (2 ^ k - 1) k w (by omega)
      rw [withB_ones k (by omega)] at H
      clear hp
      generalize 2 ^ k - 1 = t at *
      replace H := Lib.hid H
      go_wp2_with fail
      refine N.out.mono ?_
      rintro e w1 ⟨rfl, rfl⟩
      go_wp2_with fail
      refine H.out.mono ?_
      rintro e w1 ⟨rfl, rfl⟩
      go_wp2
      go_round
      case rel => exact ⟨k + 1, by omega, by go_num, rfl⟩
      case measure => simp [intOf]; omega
    · have hke : k = (2 * c.f + 1).toNat := by omega
      have HE : Hid (allB c = 2 ^ k - 1) := Lib.hid (by unfold allB; rw [hke])
      clear hke
      generalize 2 ^ k - 1 = t at *
      go_wp2_with fail
      refine N.out.mono ?_
      rintro e w1 ⟨rfl, rfl⟩
      go_wp2
      go_ret
      exact ⟨by rw [HE.out]; rfl, rfl⟩
end Go.Proofs.YtehmbcpgendkjaaDoor
