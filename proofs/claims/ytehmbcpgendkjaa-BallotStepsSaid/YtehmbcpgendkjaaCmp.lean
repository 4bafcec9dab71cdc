import Derived.Test.YtehmbcpgendkjaaRows
import Derived.Test.YtehmbcpgendkjaaBase
namespace Go.Proofs.Ytehmbcpgendkjaa
open Go.RowKit

theorem cmp_u64 (a b : Int) (w : World) : Calls Try.prog 39 #[.int .u64 a, .int .u64 b] w fun e w' => e = .returned (.int .i64 (cmpI a b)) ∧ w = w' := by
  rcases Int.lt_trichotomy a b with h | h | h
  · rw [cmpI_lt h]
    go_enter Try.func39, Try.ntmps39
    go_wp2
    go_ret
    exact ⟨rfl, rfl⟩
  · subst h
    rw [cmpI_eq]
    go_enter Try.func39, Try.ntmps39
    go_wp2
    go_ret
    exact ⟨rfl, rfl⟩
  · rw [cmpI_gt h]
    go_enter Try.func39, Try.ntmps39
    go_wp2
    go_ret
    exact ⟨rfl, rfl⟩
theorem cmp_int (a b : Int) (w : World) : Calls Try.prog 40 #[.int .i64 a, .int .i64 b] w fun e w' => e = .returned (.int .i64 (cmpI a b)) ∧ w = w' := by
  rcases Int.lt_trichotomy a b with h | h | h
  · rw [cmpI_lt h]
    go_enter Try.func40, Try.ntmps40
    go_wp2
    go_ret
    exact ⟨rfl, rfl⟩
  · subst h
    rw [cmpI_eq]
    go_enter Try.func40, Try.ntmps40
    go_wp2
    go_ret
    exact ⟨rfl, rfl⟩
  · rw [cmpI_gt h]
    go_enter Try.func40, Try.ntmps40
    go_wp2
    go_ret
    exact ⟨rfl, rfl⟩
set_option maxHeartbeats 400000 in
theorem compare_any (an ad bn bd : Int) (w : World) : Calls Try.prog 11 #[.agg #[.int .u64 an, .int .i64 ad], .agg #[.int .u64 bn, .int .i64 bd]] w fun e w' => e = .returned (.int .i64 (cmpB an ad bn bd)) ∧ Below w.heap.size w w' := by
  rcases Int.lt_trichotomy an bn with h | h | h
  · rw [cmpB_lt _ _ h]
    go_enter Try.func11, Try.ntmps11
    go_wp2_with (go_at_call 39; refine (cmp_u64 _ _ _).mono ?_; rw [cmpI_lt h]; rintro e w' ⟨rfl, rfl⟩)
    go_ret
    exact ⟨rfl, ((Below.refl _ _).alloc (Nat.le_refl _) _).alloc (by simp) _⟩
  · subst h
    rw [cmpB_eq]
    go_enter Try.func11, Try.ntmps11
    go_wp2_with (first | (go_at_call 39; refine (cmp_u64 _ _ _).mono ?_; rw [cmpI_eq]; rintro e w' ⟨rfl, rfl⟩) | (go_at_call 40; refine (cmp_int _ _ _).mono ?_; rintro e w' ⟨rfl, rfl⟩))
    go_ret
    exact ⟨rfl, ((Below.refl _ _).alloc (Nat.le_refl _) _).alloc (by simp) _⟩
  · rw [cmpB_gt _ _ h]
    go_enter Try.func11, Try.ntmps11
    go_wp2_with (go_at_call 39; refine (cmp_u64 _ _ _).mono ?_; rw [cmpI_gt h]; rintro e w' ⟨rfl, rfl⟩)
    go_ret
    exact ⟨rfl, ((Below.refl _ _).alloc (Nat.le_refl _) _).alloc (by simp) _⟩
theorem less_any (an ad bn bd : Int) (w : World) : Calls Try.prog 12 #[.agg #[.int .u64 an, .int .i64 ad], .agg #[.int .u64 bn, .int .i64 bd]] w fun e w' => e = .returned (.bool (lessB an ad bn bd)) ∧ Below w.heap.size w w' := by
  have hc := compare_any an ad bn bd
  rcases cmpB_cases an ad bn bd with ⟨h, hp⟩ | ⟨h, hp⟩ | ⟨h, hp⟩
  · rw [lessB_true.2 hp]
    rw [h] at hc
    have HC := Lib.hid hc
    clear hc h hp
    go_enter Try.func12, Try.ntmps12
    go_wp2_with (go_at_call 11; refine (HC.out _).mono ?_; rintro e w1 ⟨rfl, hb⟩)
    go_ret
    exact ⟨rfl, (((Below.refl _ _).alloc (Nat.le_refl _) _).alloc (by simp) _).trans (hb.mono (by simp; omega))⟩
  · rw [lessB_false.2 (by omega)]
    rw [h] at hc
    have HC := Lib.hid hc
    clear hc h hp
    go_enter Try.func12, Try.ntmps12
    go_wp2_with (go_at_call 11; refine (HC.out _).mono ?_; rintro e w1 ⟨rfl, hb⟩)
    go_ret
    exact ⟨rfl, (((Below.refl _ _).alloc (Nat.le_refl _) _).alloc (by simp) _).trans (hb.mono (by simp; omega))⟩
  · rw [lessB_false.2 (by omega)]
    rw [h] at hc
    have HC := Lib.hid hc
    clear hc h hp
    go_enter Try.func12, Try.ntmps12
    go_wp2_with (go_at_call 11; refine (HC.out _).mono ?_; rintro e w1 ⟨rfl, hb⟩)
    go_ret
    exact ⟨rfl, (((Below.refl _ _).alloc (Nat.le_refl _) _).alloc (by simp) _).trans (hb.mono (by simp; omega))⟩
theorem rcompare_any (an ad bn bd : Int) (w : World) : Calls Try.prog 18 #[.agg #[.int .u64 an, .int .i64 ad], .agg #[.int .u64 bn, .int .i64 bd]] w fun e w' => e = .returned (.int .i64 (cmpB an ad bn bd)) ∧ Below w.heap.size w w' := by
  rcases Int.lt_trichotomy an bn with h | h | h
  · rw [cmpB_lt _ _ h]
    have h2 : (an != bn) = true := by rw [bne_iff_ne]; omega
    go_enter Try.func18, Try.ntmps18
    go_wp2
    go_ret
    exact ⟨rfl, ((Below.refl _ _).alloc (Nat.le_refl _) _).alloc (by simp) _⟩
  · subst h
    rw [cmpB_eq]
    rcases Int.lt_trichotomy ad bd with h | h | h
    · rw [cmpI_lt h]
      have h2 : (ad != bd) = true := by rw [bne_iff_ne]; omega
      go_enter Try.func18, Try.ntmps18
      go_wp2
      go_ret
      exact ⟨rfl, ((Below.refl _ _).alloc (Nat.le_refl _) _).alloc (by simp) _⟩
    · subst h
      rw [cmpI_eq]
      go_enter Try.func18, Try.ntmps18
      go_wp2
      go_ret
      exact ⟨rfl, ((Below.refl _ _).alloc (Nat.le_refl _) _).alloc (by simp) _⟩
    · rw [cmpI_gt h]
      have h2 : (ad != bd) = true := by rw [bne_iff_ne]; omega
      go_enter Try.func18, Try.ntmps18
      go_wp2
      go_ret
      exact ⟨rfl, ((Below.refl _ _).alloc (Nat.le_refl _) _).alloc (by simp) _⟩
  · rw [cmpB_gt _ _ h]
    have h2 : (an != bn) = true := by rw [bne_iff_ne]; omega
    go_enter Try.func18, Try.ntmps18
    go_wp2
    go_ret
    exact ⟨rfl, ((Below.refl _ _).alloc (Nat.le_refl _) _).alloc (by simp) _⟩
theorem rless_any (an ad bn bd : Int) (w : World) : Calls Try.prog 19 #[.agg #[.int .u64 an, .int .i64 ad], .agg #[.int .u64 bn, .int .i64 bd]] w fun e w' => e = .returned (.bool (lessB an ad bn bd)) ∧ Below w.heap.size w w' := by
  have hc := rcompare_any an ad bn bd
  rcases cmpB_cases an ad bn bd with ⟨h, hp⟩ | ⟨h, hp⟩ | ⟨h, hp⟩
  · rw [lessB_true.2 hp]
    rw [h] at hc
    have HC := Lib.hid hc
    clear hc h hp
    go_enter Try.func19, Try.ntmps19
    go_wp2_with (go_at_call 18; refine (HC.out _).mono ?_; rintro e w1 ⟨rfl, hb⟩)
    go_ret
    exact ⟨rfl, (((Below.refl _ _).alloc (Nat.le_refl _) _).alloc (by simp) _).trans (hb.mono (by simp; omega))⟩
  · rw [lessB_false.2 (by omega)]
    rw [h] at hc
    have HC := Lib.hid hc
    clear hc h hp
    go_enter Try.func19, Try.ntmps19
    go_wp2_with (go_at_call 18; refine (HC.out _).mono ?_; rintro e w1 ⟨rfl, hb⟩)
    go_ret
    exact ⟨rfl, (((Below.refl _ _).alloc (Nat.le_refl _) _).alloc (by simp) _).trans (hb.mono (by simp; omega))⟩
  · rw [lessB_false.2 (by omega)]
    rw [h] at hc
    have HC := Lib.hid hc
    clear hc h hp
    go_enter Try.func19, Try.ntmps19
    go_wp2_with (go_at_call 18; refine (HC.out _).mono ?_; rintro e w1 ⟨rfl, hb⟩)
    go_ret
    exact ⟨rfl, (((Below.refl _ _).alloc (Nat.le_refl _) _).alloc (by simp) _).trans (hb.mono (by simp; omega))⟩
end Go.Proofs.Ytehmbcpgendkjaa
