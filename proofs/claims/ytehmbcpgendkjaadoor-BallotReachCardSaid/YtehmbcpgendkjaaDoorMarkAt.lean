import Derived.Test.YtehmbcpgendkjaaDoorMark
namespace Go.Proofs.YtehmbcpgendkjaaDoor
open Go.RowKit
set_option linter.unusedSimpArgs false
set_option linter.unusedVariables false
set_option maxRecDepth 100000 in
set_option maxHeartbeats 1600000 in
theorem mark_at (b off n c k : Nat) (zs : List Int) (w : World) (hl : zs.length = n) (h0 : 0 < n) (hn : n ≤ 12) (hk : 1 ≤ k) (hkn : k ≤ n) (hc : ∀ j, j < n → w.cell? ⟨b, off + j, none⟩ = some (.int .u64 (zs.getD j 0))) :
    Calls Tryd.prog 48 #[.slice (some ⟨b, off, none⟩) n c, .int .i64 (k : Nat)] w fun e w' => ∃ ys : List Int, ys.Perm zs ∧ (∀ p q, p < q → q < n → ys.getD p 0 ≤ ys.getD q 0) ∧ e = .returned (.tuple #[.int .u64 (ys.getD (n - k) 0), .nilIface]) ∧ Below w.heap.size w w' := by
  have C := Lib.hid (clone_at b off n c zs w hl h0 hn hc)
  have b1 : ((n : Nat) : Int) - (k : Nat) = ((n - k : Nat) : Int) := by omega
  have b2 : ¬ (((k : Nat) : Int) < 1) := by omega
  have b3 : ¬ (((n : Nat) : Int) < (k : Nat)) := by omega
  have b4 : (0 : Int) ≤ ((n : Nat) : Int) - (k : Nat) := by omega
  have b5 : ((n : Nat) : Int) - (k : Nat) < (n : Nat) := by omega
  clear hc
  go_enter Tryd.func48, Tryd.ntmps48
  go_wp2_with fail
  refine C.out.mono ?_
  rintro e w1 ⟨g, cap, rfl, hr, hb1⟩
  replace hr := Lib.hid hr
  replace hb1 := Lib.hid hb1
  go_wp2_with fail
  refine (sort_at w.heap.size g n cap zs w1 hr.out hl hn).mono ?_
  rintro e w2 ⟨⟨v, rfl⟩, ys, p1, p2, p3, p4⟩
  have yl : ys.length = n := p1.length_eq.trans hl
  have cc := p3.cell yl (n - k) (by omega)
  have sg : g < w2.heap.size := (World.ownsRow.lt p3 g rfl).2
  have sw : w.heap.size ≤ g := (World.ownsRow.lt p3 g rfl).1
  have hB : Below w.heap.size w w2 := hb1.out.trans ⟨p4.os, p4.tape, p4.output, p4.size, fun i hi => p4.block i (Nat.lt_of_lt_of_le hi hb1.out.size) (fun e => by injection e with e; omega)⟩
  replace hB := Lib.hid hB
  replace p1 := Lib.hid p1
  replace p2 := Lib.hid p2
  replace p3 := Lib.hid p3
  replace p4 := Lib.hid p4
  go_wp2
  go_ret2
  exact ⟨ys, p1.out, p2.out, rfl, hB.out⟩
end Go.Proofs.YtehmbcpgendkjaaDoor
