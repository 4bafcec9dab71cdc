import Derived.Test.YtfapaehjmbekpaaDoorWRd
namespace Go.Proofs.YtfapaehjmbekpaaDoor
open Go.RowKit
set_option linter.unusedSimpArgs false
set_option linter.unusedVariables false
theorem sizeL_bound : ∀ (ls : List (List Int)), (∀ b ∈ ls, b.length ≤ 60000) → sizeL ls ≤ ls.length * 60016
  | [], _ => by simp [sizeL]
  | x :: r, h => by
    have h1 := h x (by simp)
    have h2 := sizeL_bound r (fun b hb => h b (by simp [hb]))
    simp only [sizeL, List.map_cons, List.sum_cons, List.length_cons] at h2 ⊢
    omega
set_option maxRecDepth 100000 in
set_option maxHeartbeats 1600000 in
theorem little_ok (g n c : Nat) (p : Option Addr) (ls : List (List Int)) (w : World) (hl : ls.length = n) (hn : n ≤ 8796093022208) (hs : ∀ b ∈ ls, b.length ≤ 60000) (c3 : w.cell? ⟨g, 3, none⟩ = some (.slice none 0 0)) (c5 : w.cell? ⟨g, 5, none⟩ = some (.slice p n c)) (hr : RdRows w p ls) :
    Calls Tryd.prog 17 #[.slice (some ⟨g, 0, none⟩) 1 1] w fun e w' => e = .returned (.bool (decide (sizeL ls ≤ 268435392))) ∧ w = w' := by
  have HL := Lib.hid hl
  have HR := Lib.hid hr
  have HS := Lib.hid hs
  have hbd := sizeL_bound ls hs
  rw [hl] at hbd
  clear hl hr hs
  go_enter Tryd.func17, Tryd.ntmps17
  go_wp2
  refine wp_loop_rounds 2 ?_
  rw [rounds_succ]
  go_wp2
  go_loop [3, 5] (fun t i => ∃ k : Nat, k ≤ n ∧ i = .int .i64 k ∧ t = .int .i64 (268435392 - ((sizeL (ls.take k) : Nat) : Int))) (fun _ i => n - (intOf i).toNat)
  case atStart => exact ⟨0, Nat.zero_le _, rfl, rfl⟩
  case round =>
    obtain ⟨k, hk, rfl, rfl⟩ := hrel
    have hzk := sizeL_take_le ls k
    by_cases hlt : k < n
    · obtain ⟨b, o, x, cx, rfl, hb, hc, _, _, _⟩ := HR.out k (by rw [HL.out]; exact hlt)
      have hm := HS.out _ (List.getElem_mem (by rw [HL.out]; exact hlt : k < ls.length))
      have hst := Lib.hid (sizeL_take_succ (bs := ls) (k := k) (by rw [HL.out]; exact hlt))
      generalize (ls[k]'(by rw [HL.out]; exact hlt)).length = m at *
      generalize hz : sizeL (ls.take k) = z at *
      replace hz := Lib.hid hz
      have hk0 : (0 : Int) ≤ (k : Int) := Int.natCast_nonneg _
      have hk1 : (k : Int) < (n : Int) := by omega
      go_wp2
      go_round
      case rel => exact ⟨k + 1, by omega, by go_num, by rw [hst.out]; exact congrArg (Value.int .i64) (by omega)⟩
      case measure => simp [intOf]; omega
    · obtain rfl : k = n := by omega
      rw [List.take_of_length_le (by rw [HL.out]; exact Nat.le_refl _)] at hzk ⊢
      generalize hzz : sizeL ls = z at *
      replace hzz := Lib.hid hzz
      by_cases hz : z ≤ 268435392
      · have hz1 : ¬ ((268435392 : Int) - (z : Nat) < 0) := by omega
        have hD : Hid (decide (sizeL ls ≤ 268435392) = true) := Lib.hid (by rw [hzz.out]; exact decide_eq_true hz)
        clear hz
        go_wp2
        rw [rounds_succ]
        go_wp2
        go_ret
        exact ⟨by rw [hD.out]; rfl, rfl⟩
      · have hz1 : (268435392 : Int) - (z : Nat) < 0 := by omega
        have hD : Hid (decide (sizeL ls ≤ 268435392) = false) := Lib.hid (by rw [hzz.out]; exact decide_eq_false hz)
        clear hz
        go_wp2
        go_ret
        exact ⟨by rw [hD.out]; rfl, rfl⟩
def SomeBool (w : World) (e : Ending) (w' : World) : Prop := (∃ b, e = .returned (.bool b)) ∧ w = w'
set_option maxRecDepth 100000 in
set_option maxHeartbeats 1600000 in
theorem little_any (g n c : Nat) (p : Option Addr) (ls : List (List Int)) (w : World) (hl : ls.length = n) (hn : n ≤ 8796093022208) (c3 : w.cell? ⟨g, 3, none⟩ = some (.slice none 0 0)) (c5 : w.cell? ⟨g, 5, none⟩ = some (.slice p n c)) (hr : RdRows w p ls) :
    Calls Tryd.prog 17 #[.slice (some ⟨g, 0, none⟩) 1 1] w (SomeBool w) := by
  have HL := Lib.hid hl
  have HR := Lib.hid hr
  clear hl hr
  go_enter Tryd.func17, Tryd.ntmps17
  go_wp2
  refine wp_loop_rounds 2 ?_
  rw [rounds_succ]
  go_wp2
  go_loop [3, 5] (fun t i => ∃ (k : Nat) (z : Int), k ≤ n ∧ i = .int .i64 k ∧ t = .int .i64 z) (fun _ i => n - (intOf i).toNat)
  case atStart => exact ⟨0, _, Nat.zero_le _, rfl, rfl⟩
  case round =>
    obtain ⟨k, z, hk, rfl, rfl⟩ := hrel
    by_cases hlt : k < n
    · obtain ⟨b, o, x, cx, rfl, hb, hc, _, _, _⟩ := HR.out k (by rw [HL.out]; exact hlt)
      generalize (ls[k]'(by rw [HL.out]; exact hlt)).length = m at *
      have hk0 : (0 : Int) ≤ (k : Int) := Int.natCast_nonneg _
      have hk1 : (k : Int) < (n : Int) := by omega
      go_wp2
      go_round
      case rel => exact ⟨k + 1, _, by omega, by go_num, rfl⟩
      case measure => simp [intOf]; omega
    · by_cases hz1 : z < 0
      · go_wp2
        go_ret
        exact ⟨⟨_, rfl⟩, rfl⟩
      · go_wp2
        rw [rounds_succ]
        go_wp2
        go_ret
        exact ⟨⟨_, rfl⟩, rfl⟩
end Go.Proofs.YtfapaehjmbekpaaDoor
