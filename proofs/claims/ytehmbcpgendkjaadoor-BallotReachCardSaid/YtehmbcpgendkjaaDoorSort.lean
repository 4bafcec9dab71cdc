import Derived.Test.YtehmbcpgendkjaaDoorSort12
namespace Go.Proofs.YtehmbcpgendkjaaDoor
open Go.RowKit
set_option linter.unusedSimpArgs false
set_option linter.unusedVariables false
set_option maxRecDepth 100000 in
theorem pdq_at (B g n cap : Nat) (zs : List Int) (lim : Int) (w : World) (h : RowU w B g n cap zs) (hl : zs.length = n) (hn : n ≤ 12) :
    Calls Tryd.prog 73 #[.slice (some ⟨g, 0, none⟩) n cap, .int .i64 0, .int .i64 (n : Nat), .int .i64 lim] w fun e w' => (∃ v, e = .returned v) ∧ ∃ zs' : List Int, zs'.Perm zs ∧ (∀ p q, p < q → q < n → zs'.getD p 0 ≤ zs'.getD q 0) ∧ RowU w' B g n cap zs' ∧ w.grownBy w' (some g) := by
  have I := Lib.hid (isort_at B g n cap zs w h hl hn)
  have b0 : ((n : Nat) : Int) ≤ 12 := by omega
  clear h
  go_enter Tryd.func73, Tryd.ntmps73
  go_wp2
  refine wp_loop_rounds 1 ?_
  rw [rounds_succ]
  go_wp2_with fail
  refine I.out.mono ?_
  rintro e w1 ⟨⟨v, rfl⟩, zs', h1, h2, h3, h4⟩
  replace h1 := Lib.hid h1
  replace h2 := Lib.hid h2
  replace h3 := Lib.hid h3
  replace h4 := Lib.hid h4
  go_wp2
  refine bodyPost_ret (results_none rfl _ _ _) rfl ?_
  exact ⟨⟨_, rfl⟩, zs', h1.out, h2.out, h3.out, h4.out⟩
set_option maxRecDepth 100000 in
theorem len64_at (n : Nat) (w : World) (hn : n ≤ 12) : Calls Tryd.prog 85 #[.int .u64 (n : Nat)] w fun e w' => (∃ v : Int, e = .returned (.int .i64 v)) ∧ w = w' := by
  have h0 : n = 0 ∨ n = 1 ∨ n = 2 ∨ n = 3 ∨ n = 4 ∨ n = 5 ∨ n = 6 ∨ n = 7 ∨ n = 8 ∨ n = 9 ∨ n = 10 ∨ n = 11 ∨ n = 12 := by omega
  rcases h0 with rfl | rfl | rfl | rfl | rfl | rfl | rfl | rfl | rfl | rfl | rfl | rfl | rfl
  all_goals (
    go_enter Tryd.func85, Tryd.ntmps85
    go_wp2
    go_ret
    exact ⟨⟨_, rfl⟩, rfl⟩)
theorem len_at (n : Nat) (w : World) (hn : n ≤ 12) : Calls Tryd.prog 74 #[.int .u64 (n : Nat)] w fun e w' => (∃ v : Int, e = .returned (.int .i64 v)) ∧ w = w' := by
  have L := Lib.hid (len64_at n w hn)
  go_enter Tryd.func74, Tryd.ntmps74
  go_wp2_with fail
  refine L.out.mono ?_
  rintro e w1 ⟨⟨v, rfl⟩, rfl⟩
  go_wp2
  go_ret
  exact ⟨⟨_, rfl⟩, rfl⟩
set_option maxRecDepth 100000 in
theorem sort_at (B g n cap : Nat) (zs : List Int) (w : World) (h : RowU w B g n cap zs) (hl : zs.length = n) (hn : n ≤ 12) :
    Calls Tryd.prog 67 #[.slice (some ⟨g, 0, none⟩) n cap] w fun e w' => (∃ v, e = .returned v) ∧ ∃ zs' : List Int, zs'.Perm zs ∧ (∀ p q, p < q → q < n → zs'.getD p 0 ≤ zs'.getD q 0) ∧ RowU w' B g n cap zs' ∧ w.grownBy w' (some g) := by
  have P := Lib.hid (fun lim => pdq_at B g n cap zs lim w h hl hn)
  have L := Lib.hid (len_at n w hn)
  clear h
  go_enter Tryd.func67, Tryd.ntmps67
  go_wp2_with fail
  refine L.out.mono ?_
  rintro e w1 ⟨⟨v, rfl⟩, rfl⟩
  go_wp2_with fail
  refine (P.out v).mono ?_
  rintro e w1 ⟨⟨u, rfl⟩, zs', h1, h2, h3, h4⟩
  replace h1 := Lib.hid h1
  replace h2 := Lib.hid h2
  replace h3 := Lib.hid h3
  replace h4 := Lib.hid h4
  go_wp2
  go_end0
  exact ⟨⟨_, rfl⟩, zs', h1.out, h2.out, h3.out, h4.out⟩
end Go.Proofs.YtehmbcpgendkjaaDoor
