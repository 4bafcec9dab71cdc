import Derived.Test.YtehmbcpgendkjaaDoorRows
import Derived.Test.YtehmbcpgendkjaaDoorBase
namespace Go.Proofs.YtehmbcpgendkjaaDoor
open Go.RowKit

/-- A configuration as plain data. -/
structure Cfg where
  f : Int
  mb : Int
  dl : Int
  wd : Int
  ev : Int
  bt : Int
  ep : Int
  em : Int
  mn : Int
  ms : Int
/-- In block b lies a group of the program's: a configuration and a number of nodes. -/
structure GrpAt (w : World) (b : Nat) (c : Cfg) (n : Int) : Prop where
  lt : b < w.heap.size
  f : w.cell? ⟨b, 0, none⟩ = some (.int .i64 c.f)
  mb : w.cell? ⟨b, 1, none⟩ = some (.int .i64 c.mb)
  dl : w.cell? ⟨b, 2, none⟩ = some (.int .u64 c.dl)
  wd : w.cell? ⟨b, 3, none⟩ = some (.int .u64 c.wd)
  ev : w.cell? ⟨b, 4, none⟩ = some (.int .u64 c.ev)
  bt : w.cell? ⟨b, 5, none⟩ = some (.int .u64 c.bt)
  ep : w.cell? ⟨b, 6, none⟩ = some (.int .u64 c.ep)
  em : w.cell? ⟨b, 7, none⟩ = some (.int .u64 c.em)
  mn : w.cell? ⟨b, 8, none⟩ = some (.int .u64 c.mn)
  ms : w.cell? ⟨b, 9, none⟩ = some (.int .u64 c.ms)
  nodes : w.cell? ⟨b, 10, none⟩ = some (.int .i64 n)
theorem GrpAt.below {w w' : World} {b B : Nat} {c : Cfg} {n : Int} (h : GrpAt w b c n) (hB : b < B) (hb : Below B w w') : GrpAt w' b c n := by
  have hc := (bcell hb).1
  exact ⟨Nat.lt_of_lt_of_le h.lt hb.size, (hc b 0 hB).trans h.f, (hc b 1 hB).trans h.mb, (hc b 2 hB).trans h.dl, (hc b 3 hB).trans h.wd, (hc b 4 hB).trans h.ev, (hc b 5 hB).trans h.bt,
    (hc b 6 hB).trans h.ep, (hc b 7 hB).trans h.em, (hc b 8 hB).trans h.mn, (hc b 9 hB).trans h.ms, (hc b 10 hB).trans h.nodes⟩
/-- In block b lies a group of the document's. -/
structure RefAt (w : World) (b : Nat) (c : Cfg) : Prop where
  lt : b < w.heap.size
  f : w.cell? ⟨b, 0, none⟩ = some (.int .i64 c.f)
  mb : w.cell? ⟨b, 1, none⟩ = some (.int .i64 c.mb)
  dl : w.cell? ⟨b, 2, none⟩ = some (.int .u64 c.dl)
  wd : w.cell? ⟨b, 3, none⟩ = some (.int .u64 c.wd)
  ev : w.cell? ⟨b, 4, none⟩ = some (.int .u64 c.ev)
  bt : w.cell? ⟨b, 5, none⟩ = some (.int .u64 c.bt)
  ep : w.cell? ⟨b, 6, none⟩ = some (.int .u64 c.ep)
  em : w.cell? ⟨b, 7, none⟩ = some (.int .u64 c.em)
  mn : w.cell? ⟨b, 8, none⟩ = some (.int .u64 c.mn)
  ms : w.cell? ⟨b, 9, none⟩ = some (.int .u64 c.ms)
theorem RefAt.below {w w' : World} {b B : Nat} {c : Cfg} (h : RefAt w b c) (hB : b < B) (hb : Below B w w') : RefAt w' b c := by
  have hc := (bcell hb).1
  exact ⟨Nat.lt_of_lt_of_le h.lt hb.size, (hc b 0 hB).trans h.f, (hc b 1 hB).trans h.mb, (hc b 2 hB).trans h.dl, (hc b 3 hB).trans h.wd, (hc b 4 hB).trans h.ev, (hc b 5 hB).trans h.bt,
    (hc b 6 hB).trans h.ep, (hc b 7 hB).trans h.em, (hc b 8 hB).trans h.mn, (hc b 9 hB).trans h.ms⟩

theorem made_nil (w : World) : Calls Tryd.prog 54 #[.pointer none] w fun e w' => e = .returned (.bool false) ∧ w = w' := by
  go_enter Tryd.func54, Tryd.ntmps54
  go_wp2
  go_ret
  exact ⟨rfl, rfl⟩
theorem made_at (b : Nat) (n : Int) (w : World) (hc : w.cell? ⟨b, 10, none⟩ = some (.int .i64 n)) : Calls Tryd.prog 54 #[.pointer (some ⟨b, 0, none⟩)] w fun e w' => e = .returned (.bool (decide (0 < n))) ∧ w = w' := by
  go_enter Tryd.func54, Tryd.ntmps54
  go_wp2
  go_ret
  exact ⟨rfl, rfl⟩
theorem node_at (b : Nat) (n x : Int) (w : World) (hc : w.cell? ⟨b, 10, none⟩ = some (.int .i64 n)) (hn : 0 < n) :
    Calls Tryd.prog 25 #[.pointer (some ⟨b, 0, none⟩), .int .i64 x] w fun e w' => e = .returned (.bool (decide (0 ≤ x ∧ x < n))) ∧ w = w' := by
  have hn' : decide (0 < n) = true := decide_eq_true hn
  have M := made_at b n w hc
  rw [hn'] at M
  have M := Lib.hid M
  by_cases h0 : 0 ≤ x
  · go_enter Tryd.func25, Tryd.ntmps25
    go_wp2_with (go_at_call 54; refine M.out.mono ?_; rintro e w1 ⟨rfl, rfl⟩)
    go_ret
    exact ⟨by simp [h0], rfl⟩
  · go_enter Tryd.func25, Tryd.ntmps25
    go_wp2_with (go_at_call 54; refine M.out.mono ?_; rintro e w1 ⟨rfl, rfl⟩)
    go_ret
    exact ⟨by simp; omega, rfl⟩
theorem node_nil (x : Int) (w : World) : Calls Tryd.prog 25 #[.pointer none, .int .i64 x] w fun e w' => e = .returned (.bool false) ∧ w = w' := by
  go_enter Tryd.func25, Tryd.ntmps25
  go_wp2_with (go_at_call 54; refine (made_nil _).mono ?_; rintro e w1 ⟨rfl, rfl⟩)
  go_ret
  exact ⟨rfl, rfl⟩
theorem nodes_at (b : Nat) (n : Int) (w : World) (hc : w.cell? ⟨b, 10, none⟩ = some (.int .i64 n)) (hn : 0 < n) :
    Calls Tryd.prog 22 #[.pointer (some ⟨b, 0, none⟩)] w fun e w' => e = .returned (.int .i64 n) ∧ w = w' := by
  have hn' : decide (0 < n) = true := decide_eq_true hn
  have M := made_at b n w hc
  rw [hn'] at M
  have M := Lib.hid M
  go_enter Tryd.func22, Tryd.ntmps22
  go_wp2_with (go_at_call 54; refine M.out.mono ?_; rintro e w1 ⟨rfl, rfl⟩)
  go_ret
  exact ⟨rfl, rfl⟩
theorem nodes_nil (w : World) : Calls Tryd.prog 22 #[.pointer none] w fun e w' => e = .returned (.int .i64 0) ∧ w = w' := by
  go_enter Tryd.func22, Tryd.ntmps22
  go_wp2_with (go_at_call 54; refine (made_nil _).mono ?_; rintro e w1 ⟨rfl, rfl⟩)
  go_ret
  exact ⟨rfl, rfl⟩
theorem quorum_at (b : Nat) (n f : Int) (w : World) (hc : w.cell? ⟨b, 10, none⟩ = some (.int .i64 n)) (hf : w.cell? ⟨b, 0, none⟩ = some (.int .i64 f)) (hn : 0 < n) (h1 : 0 ≤ f) (h2 : f ≤ 3) :
    Calls Tryd.prog 24 #[.pointer (some ⟨b, 0, none⟩)] w fun e w' => e = .returned (.int .i64 (f + 1)) ∧ w = w' := by
  have hn' : decide (0 < n) = true := decide_eq_true hn
  have M := made_at b n w hc
  rw [hn'] at M
  have M := Lib.hid M
  go_enter Tryd.func24, Tryd.ntmps24
  go_wp2_with (go_at_call 54; refine M.out.mono ?_; rintro e w1 ⟨rfl, rfl⟩)
  go_ret
  exact ⟨rfl, rfl⟩
theorem rnodes_at (b : Nat) (f : Int) (w : World) (hf : w.cell? ⟨b, 0, none⟩ = some (.int .i64 f)) (h1 : 0 ≤ f) (h2 : f ≤ 3) :
    Calls Tryd.prog 30 #[.pointer (some ⟨b, 0, none⟩)] w fun e w' => e = .returned (.int .i64 (2 * f + 1)) ∧ w = w' := by
  go_enter Tryd.func30, Tryd.ntmps30
  go_wp2
  go_ret
  exact ⟨rfl, rfl⟩
theorem rnode_at (b : Nat) (f x : Int) (w : World) (hf : w.cell? ⟨b, 0, none⟩ = some (.int .i64 f)) (h1 : 0 ≤ f) (h2 : f ≤ 3) :
    Calls Tryd.prog 32 #[.pointer (some ⟨b, 0, none⟩), .int .i64 x] w fun e w' => e = .returned (.bool (decide (0 ≤ x ∧ x < 2 * f + 1))) ∧ w = w' := by
  have M := Lib.hid (rnodes_at b f w hf h1 h2)
  by_cases h0 : 0 ≤ x
  · go_enter Tryd.func32, Tryd.ntmps32
    go_wp2_with (go_at_call 30; refine M.out.mono ?_; rintro e w1 ⟨rfl, rfl⟩)
    go_ret
    exact ⟨by simp [h0], rfl⟩
  · go_enter Tryd.func32, Tryd.ntmps32
    go_wp2_with (go_at_call 30; refine M.out.mono ?_; rintro e w1 ⟨rfl, rfl⟩)
    go_ret
    exact ⟨by simp; omega, rfl⟩
end Go.Proofs.YtehmbcpgendkjaaDoor
