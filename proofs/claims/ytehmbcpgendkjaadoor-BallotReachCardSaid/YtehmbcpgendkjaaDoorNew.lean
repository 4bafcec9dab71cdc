import Derived.Test.YtehmbcpgendkjaaDoorField
import Derived.Test.YtehmbcpgendkjaaDoorStore
import Derived.Laws.Rows
import Derived.Test.YtehmbcpgendkjaaDoorSame
namespace Go.Proofs.YtehmbcpgendkjaaDoor
open Go.RowKit
set_option linter.unusedSimpArgs false
set_option linter.unusedVariables false
def ballotS : ByteArray := ⟨#[98, 97, 108, 108, 111, 116]⟩
theorem refuse_any (i c : Int) (w : World) : Calls Tryd.prog 65 #[.int .i64 i, .int .i64 c] w fun e w' =>
    e = .returned (.iface 128 (.pointer (some ⟨w.heap.size, 0, none⟩))) ∧ w.alloc (.cells #[.string ⟨#[98, 97, 108, 108, 111, 116]⟩, .int .i64 i, .iface 78 (.int .i64 c)] 130) = w' := by
  go_enter Tryd.func65, Tryd.ntmps65
  go_wp2
  go_ret
  exact ⟨rfl, rfl⟩
theorem ErrIs.mk1 {w : World} {b : Nat} {s : ByteArray} {i c : Int} (h : b < w.heap.size) (h0 : w.cell? ⟨b, 0, none⟩ = some (.string s)) (h1 : w.cell? ⟨b, 1, none⟩ = some (.int .i64 i)) (h2 : w.cell? ⟨b, 2, none⟩ = some (.iface 78 (.int .i64 c))) :
    ErrIs w [(s, i)] c (.iface 128 (.pointer (some ⟨b, 0, none⟩))) := ⟨b, _, rfl, h, h0, h1, h2, rfl⟩
theorem all_next {c : Cfg} {k : Nat} (h : ∀ j, j < k → rowOk c j = true) (hr : rowOk c k = true) : ∀ j, j < k + 1 → rowOk c j = true := fun j hj => by
  by_cases e : j = k
  · rw [e]; exact hr
  · exact h j (by omega)
/-- The fields lie within their kinds. -/
structure Cfg.Ok (c : Cfg) : Prop where
  f0 : -9223372036854775808 ≤ c.f
  f1 : c.f < 9223372036854775808
  mb0 : -9223372036854775808 ≤ c.mb
  mb1 : c.mb < 9223372036854775808
  dl0 : 0 ≤ c.dl
  wd0 : 0 ≤ c.wd
  ev0 : 0 ≤ c.ev
  bt0 : 0 ≤ c.bt
  ep0 : 0 ≤ c.ep
  em0 : 0 ≤ c.em
  mn0 : 0 ≤ c.mn
  ms0 : 0 ≤ c.ms
theorem build_rows (x0 x1 x2 x3 x4 x5 x6 x7 x8 x9 x10 x11 x12 x13 x14 x15 x16 x17 x18 x19 x20 x21 x22 x23 x24 x25 x26 x27 x28 x29 : Value) (w : World) : (Instr.build 121 #[(0, .agg #[x0, x1, x2]), (1, .agg #[x3, x4, x5]), (2, .agg #[x6, x7, x8]), (3, .agg #[x9, x10, x11]), (4, .agg #[x12, x13, x14]), (5, .agg #[x15, x16, x17]), (6, .agg #[x18, x19, x20]), (7, .agg #[x21, x22, x23]), (8, .agg #[x24, x25, x26]), (9, .agg #[x27, x28, x29])]).run Tryd.prog w = .ok (.agg #[x0, x1, x2, x3, x4, x5, x6, x7, x8, x9, x10, x11, x12, x13, x14, x15, x16, x17, x18, x19, x20, x21, x22, x23, x24, x25, x26, x27, x28, x29]) w := by kernel_rfl
theorem alloc_rows (w : World) : (Instr.alloc 121 true (.tuple #[])).run Tryd.prog w = .ok (.pointer (some ⟨w.heap.size, 0, none⟩)) (w.alloc (.cells #[.int .u64 0, .int .u64 0, .int .u64 0, .int .u64 0, .int .u64 0, .int .u64 0, .int .u64 0, .int .u64 0, .int .u64 0, .int .u64 0, .int .u64 0, .int .u64 0, .int .u64 0, .int .u64 0, .int .u64 0, .int .u64 0, .int .u64 0, .int .u64 0, .int .u64 0, .int .u64 0, .int .u64 0, .int .u64 0, .int .u64 0, .int .u64 0, .int .u64 0, .int .u64 0, .int .u64 0, .int .u64 0, .int .u64 0, .int .u64 0] 121)) := by kernel_rfl
theorem idx0 (x0 x1 x2 x3 x4 x5 x6 x7 x8 x9 x10 x11 x12 x13 x14 x15 x16 x17 x18 x19 x20 x21 x22 x23 x24 x25 x26 x27 x28 x29 : Value) (w : World) : (Instr.index 121 (.agg #[x0, x1, x2, x3, x4, x5, x6, x7, x8, x9, x10, x11, x12, x13, x14, x15, x16, x17, x18, x19, x20, x21, x22, x23, x24, x25, x26, x27, x28, x29]) (.int .i64 0)).run Tryd.prog w = .ok (.agg #[x0, x1, x2]) w := by kernel_rfl
theorem idx1 (x0 x1 x2 x3 x4 x5 x6 x7 x8 x9 x10 x11 x12 x13 x14 x15 x16 x17 x18 x19 x20 x21 x22 x23 x24 x25 x26 x27 x28 x29 : Value) (w : World) : (Instr.index 121 (.agg #[x0, x1, x2, x3, x4, x5, x6, x7, x8, x9, x10, x11, x12, x13, x14, x15, x16, x17, x18, x19, x20, x21, x22, x23, x24, x25, x26, x27, x28, x29]) (.int .i64 1)).run Tryd.prog w = .ok (.agg #[x3, x4, x5]) w := by kernel_rfl
theorem idx2 (x0 x1 x2 x3 x4 x5 x6 x7 x8 x9 x10 x11 x12 x13 x14 x15 x16 x17 x18 x19 x20 x21 x22 x23 x24 x25 x26 x27 x28 x29 : Value) (w : World) : (Instr.index 121 (.agg #[x0, x1, x2, x3, x4, x5, x6, x7, x8, x9, x10, x11, x12, x13, x14, x15, x16, x17, x18, x19, x20, x21, x22, x23, x24, x25, x26, x27, x28, x29]) (.int .i64 2)).run Tryd.prog w = .ok (.agg #[x6, x7, x8]) w := by kernel_rfl
theorem idx3 (x0 x1 x2 x3 x4 x5 x6 x7 x8 x9 x10 x11 x12 x13 x14 x15 x16 x17 x18 x19 x20 x21 x22 x23 x24 x25 x26 x27 x28 x29 : Value) (w : World) : (Instr.index 121 (.agg #[x0, x1, x2, x3, x4, x5, x6, x7, x8, x9, x10, x11, x12, x13, x14, x15, x16, x17, x18, x19, x20, x21, x22, x23, x24, x25, x26, x27, x28, x29]) (.int .i64 3)).run Tryd.prog w = .ok (.agg #[x9, x10, x11]) w := by kernel_rfl
theorem idx4 (x0 x1 x2 x3 x4 x5 x6 x7 x8 x9 x10 x11 x12 x13 x14 x15 x16 x17 x18 x19 x20 x21 x22 x23 x24 x25 x26 x27 x28 x29 : Value) (w : World) : (Instr.index 121 (.agg #[x0, x1, x2, x3, x4, x5, x6, x7, x8, x9, x10, x11, x12, x13, x14, x15, x16, x17, x18, x19, x20, x21, x22, x23, x24, x25, x26, x27, x28, x29]) (.int .i64 4)).run Tryd.prog w = .ok (.agg #[x12, x13, x14]) w := by kernel_rfl
theorem idx5 (x0 x1 x2 x3 x4 x5 x6 x7 x8 x9 x10 x11 x12 x13 x14 x15 x16 x17 x18 x19 x20 x21 x22 x23 x24 x25 x26 x27 x28 x29 : Value) (w : World) : (Instr.index 121 (.agg #[x0, x1, x2, x3, x4, x5, x6, x7, x8, x9, x10, x11, x12, x13, x14, x15, x16, x17, x18, x19, x20, x21, x22, x23, x24, x25, x26, x27, x28, x29]) (.int .i64 5)).run Tryd.prog w = .ok (.agg #[x15, x16, x17]) w := by kernel_rfl
theorem idx6 (x0 x1 x2 x3 x4 x5 x6 x7 x8 x9 x10 x11 x12 x13 x14 x15 x16 x17 x18 x19 x20 x21 x22 x23 x24 x25 x26 x27 x28 x29 : Value) (w : World) : (Instr.index 121 (.agg #[x0, x1, x2, x3, x4, x5, x6, x7, x8, x9, x10, x11, x12, x13, x14, x15, x16, x17, x18, x19, x20, x21, x22, x23, x24, x25, x26, x27, x28, x29]) (.int .i64 6)).run Tryd.prog w = .ok (.agg #[x18, x19, x20]) w := by kernel_rfl
theorem idx7 (x0 x1 x2 x3 x4 x5 x6 x7 x8 x9 x10 x11 x12 x13 x14 x15 x16 x17 x18 x19 x20 x21 x22 x23 x24 x25 x26 x27 x28 x29 : Value) (w : World) : (Instr.index 121 (.agg #[x0, x1, x2, x3, x4, x5, x6, x7, x8, x9, x10, x11, x12, x13, x14, x15, x16, x17, x18, x19, x20, x21, x22, x23, x24, x25, x26, x27, x28, x29]) (.int .i64 7)).run Tryd.prog w = .ok (.agg #[x21, x22, x23]) w := by kernel_rfl
theorem idx8 (x0 x1 x2 x3 x4 x5 x6 x7 x8 x9 x10 x11 x12 x13 x14 x15 x16 x17 x18 x19 x20 x21 x22 x23 x24 x25 x26 x27 x28 x29 : Value) (w : World) : (Instr.index 121 (.agg #[x0, x1, x2, x3, x4, x5, x6, x7, x8, x9, x10, x11, x12, x13, x14, x15, x16, x17, x18, x19, x20, x21, x22, x23, x24, x25, x26, x27, x28, x29]) (.int .i64 8)).run Tryd.prog w = .ok (.agg #[x24, x25, x26]) w := by kernel_rfl
theorem idx9 (x0 x1 x2 x3 x4 x5 x6 x7 x8 x9 x10 x11 x12 x13 x14 x15 x16 x17 x18 x19 x20 x21 x22 x23 x24 x25 x26 x27 x28 x29 : Value) (w : World) : (Instr.index 121 (.agg #[x0, x1, x2, x3, x4, x5, x6, x7, x8, x9, x10, x11, x12, x13, x14, x15, x16, x17, x18, x19, x20, x21, x22, x23, x24, x25, x26, x27, x28, x29]) (.int .i64 9)).run Tryd.prog w = .ok (.agg #[x27, x28, x29]) w := by kernel_rfl
def rowV (c : Cfg) : Nat → Int
  | 0 => IntKind.u64.wrap c.f
  | 1 => IntKind.u64.wrap c.mb
  | 2 => c.dl
  | 3 => c.wd
  | 4 => c.ev
  | 5 => c.bt
  | 6 => c.ep
  | 7 => c.em
  | 8 => c.mn
  | 9 => c.ms
  | _ => 0
def rowL (c : Cfg) : Nat → Int
  | 0 => 1
  | 1 => 1
  | 2 => 0
  | 3 => 1
  | 4 => 1
  | 5 => 1
  | 6 => 1
  | 7 => c.ep
  | 8 => 1
  | 9 => 1
  | _ => 0
def rowM (c : Cfg) : Nat → Int
  | 0 => 3
  | 1 => 8
  | 2 => 1000
  | 3 => 8
  | 4 => c.wd
  | 5 => 1000
  | 6 => 10000
  | 7 => 100000
  | 8 => 1099511627776
  | 9 => 1099511627776
  | _ => 0
theorem idx_any (c : Cfg) (k : Nat) (hk : k < 10) (w : World) : (Instr.index 121 (.agg #[.int .u64 (IntKind.u64.wrap c.f), .int .u64 1, .int .u64 3, .int .u64 (IntKind.u64.wrap c.mb), .int .u64 1, .int .u64 8, .int .u64 (c.dl), .int .u64 0, .int .u64 1000, .int .u64 (c.wd), .int .u64 1, .int .u64 8, .int .u64 (c.ev), .int .u64 1, .int .u64 c.wd, .int .u64 (c.bt), .int .u64 1, .int .u64 1000, .int .u64 (c.ep), .int .u64 1, .int .u64 10000, .int .u64 (c.em), .int .u64 c.ep, .int .u64 100000, .int .u64 (c.mn), .int .u64 1, .int .u64 1099511627776, .int .u64 (c.ms), .int .u64 1, .int .u64 1099511627776]) (.int .i64 k)).run Tryd.prog w = .ok (.agg #[.int .u64 (rowV c k), .int .u64 (rowL c k), .int .u64 (rowM c k)]) w := by
  have hks : k = 0 ∨ k = 1 ∨ k = 2 ∨ k = 3 ∨ k = 4 ∨ k = 5 ∨ k = 6 ∨ k = 7 ∨ k = 8 ∨ k = 9 := by omega
  rcases hks with rfl | rfl | rfl | rfl | rfl | rfl | rfl | rfl | rfl | rfl
  · exact idx0 _ _ _ _ _ _ _ _ _ _ _ _ _ _ _ _ _ _ _ _ _ _ _ _ _ _ _ _ _ _ w
  · exact idx1 _ _ _ _ _ _ _ _ _ _ _ _ _ _ _ _ _ _ _ _ _ _ _ _ _ _ _ _ _ _ w
  · exact idx2 _ _ _ _ _ _ _ _ _ _ _ _ _ _ _ _ _ _ _ _ _ _ _ _ _ _ _ _ _ _ w
  · exact idx3 _ _ _ _ _ _ _ _ _ _ _ _ _ _ _ _ _ _ _ _ _ _ _ _ _ _ _ _ _ _ w
  · exact idx4 _ _ _ _ _ _ _ _ _ _ _ _ _ _ _ _ _ _ _ _ _ _ _ _ _ _ _ _ _ _ w
  · exact idx5 _ _ _ _ _ _ _ _ _ _ _ _ _ _ _ _ _ _ _ _ _ _ _ _ _ _ _ _ _ _ w
  · exact idx6 _ _ _ _ _ _ _ _ _ _ _ _ _ _ _ _ _ _ _ _ _ _ _ _ _ _ _ _ _ _ w
  · exact idx7 _ _ _ _ _ _ _ _ _ _ _ _ _ _ _ _ _ _ _ _ _ _ _ _ _ _ _ _ _ _ w
  · exact idx8 _ _ _ _ _ _ _ _ _ _ _ _ _ _ _ _ _ _ _ _ _ _ _ _ _ _ _ _ _ _ w
  · exact idx9 _ _ _ _ _ _ _ _ _ _ _ _ _ _ _ _ _ _ _ _ _ _ _ _ _ _ _ _ _ _ w
theorem row_iff (c : Cfg) (ok : c.Ok) (k : Nat) (hk : k < 10) : rowOk c k = true ↔ ¬ rowV c k < rowL c k ∧ ¬ rowM c k < rowV c k := by
  obtain ⟨f0, f1, mb0, mb1, dl0, wd0, ev0, bt0, ep0, em0, mn0, ms0⟩ := ok
  have hks : k = 0 ∨ k = 1 ∨ k = 2 ∨ k = 3 ∨ k = 4 ∨ k = 5 ∨ k = 6 ∨ k = 7 ∨ k = 8 ∨ k = 9 := by omega
  rcases hks with rfl | rfl | rfl | rfl | rfl | rfl | rfl | rfl | rfl | rfl <;> simp only [rowOk, rowV, rowL, rowM, Bool.and_eq_true, decide_eq_true_eq, IntKind.wrap, IntKind.signed, IntKind.bits] <;> (try simp) <;> omega
/-- What New answers. -/
def NewPost (c : Cfg) (w : World) (e : Ending) (w' : World) : Prop :=
  (c.bad = -1 ∧ ∃ b, e = .returned (.tuple #[.pointer (some ⟨b, 0, none⟩), .nilIface]) ∧ w.heap.size ≤ b ∧ GrpAt w' b c (2 * c.f + 1) ∧ Below w.heap.size w w') ∨
  (∃ k : Nat, c.bad = k ∧ ∃ v, e = .returned (.tuple #[.pointer none, v]) ∧ ErrIs w' [(ballotS, (k : Int))] 180 v ∧ Below w.heap.size w w')
set_option maxRecDepth 100000 in
set_option maxHeartbeats 1000000 in
theorem new_any (c : Cfg) (w : World) (ok : c.Ok) : Calls Tryd.prog 51 #[.agg #[.int .i64 c.f, .int .i64 c.mb, .int .u64 c.dl, .int .u64 c.wd, .int .u64 c.ev, .int .u64 c.bt, .int .u64 c.ep, .int .u64 c.em, .int .u64 c.mn, .int .u64 c.ms]] w (NewPost c w) := by
  go_enter Tryd.func51, Tryd.ntmps51
  iterate 124 go_step
  refine wpList_build rfl 121 _ rfl _ ?hv _ (build_rows (.int .u64 (IntKind.u64.wrap c.f)) (.int .u64 1) (.int .u64 3) (.int .u64 (IntKind.u64.wrap c.mb)) (.int .u64 1) (.int .u64 8) (.int .u64 c.dl) (.int .u64 0) (.int .u64 1000) (.int .u64 c.wd) (.int .u64 1) (.int .u64 8) (.int .u64 c.ev) (.int .u64 1) (.int .u64 c.wd) (.int .u64 c.bt) (.int .u64 1) (.int .u64 1000) (.int .u64 c.ep) (.int .u64 1) (.int .u64 10000) (.int .u64 c.em) (.int .u64 c.ep) (.int .u64 100000) (.int .u64 c.mn) (.int .u64 1) (.int .u64 1099511627776) (.int .u64 c.ms) (.int .u64 1) (.int .u64 1099511627776) _) ?hk
  case hv =>
    simp only [List.map_toArray, List.map_cons, List.map_nil, Act.eval, go_sem]
    rfl
  case hk =>
  simp only [Act.put, List.setIfInBounds_toArray, List.set_cons_zero, List.set_cons_succ]
  refine wpList_alloc rfl 121 rfl _ (alloc_rows _) ?_
  simp only [Act.put, List.setIfInBounds_toArray, List.set_cons_zero, List.set_cons_succ]
  refine wpList_store_new rfl 121 (.tmp 4) (.tmp 43) rfl _ rfl _ rfl rfl rfl (by kernel_rfl) (by kernel_rfl) ?_
  simp only [Act.put, World.size_alloc]
  go_wp2_with (refine wpList_load_row rfl 121 (.tmp 4) rfl (w.heap.size + 1) rfl 121 _ (0, 0) _ (heap_new' (by simp)) Tryd.underlying121 rfl (by kernel_rfl) ?_)
  go_loopw [45] (fun i wr => ∃ k : Nat, k ≤ 10 ∧ i = .int .i64 k ∧ Hid (∀ j, j < k → rowOk c j = true) ∧ RefAt wr w.heap.size c ∧ Below w.heap.size w wr) (fun i _ => 10 - (intOf i).toNat)
  case atStart => exact ⟨0, by omega, rfl, fun j hj => by omega, ⟨by simp; omega, by simp, by simp, by simp, by simp, by simp, by simp, by simp, by simp, by simp, by simp⟩, (by repeat (first | exact Below.refl _ _ | refine Below.alloc_ ?_ _ | refine Below.drew ?_ | refine below_drewN ?_ | refine Below.setCell ?_ (by first | (simp; done) | (simp; omega)) _))⟩
  case round =>
    obtain ⟨k, hk, rfl, hall, hcf, hb_wr⟩ := hrel
    have hsz := hcf.lt
    by_cases hlt : k < 10
    · have hix := idx_any c k hlt
      have hrow := Lib.hid (row_iff c ok k hlt)
      have HALL := hall
      have hk0 : (0 : Int) ≤ (k : Int) := Int.natCast_nonneg _
      have hk1 : (k : Int) < 10 := by omega
      by_cases hlo : rowV c k < rowL c k
      · have HBAD := Lib.hid (bad_at (c := c) hlt hall.out (by cases hr : rowOk c k; rfl; exact absurd hlo (hrow.out.1 hr).1))
        go_wp2_with (go_at_call 65; refine (refuse_any _ _ _).mono ?_; rintro e w' ⟨rfl, rfl⟩)
        go_ret2
        exact .inr ⟨k, HBAD.out, _, rfl, ErrIs.mk1 (by first | (simp; done) | (simp; omega)) (by simp [ballotS]) (by simp) (by simp), (by repeat (first | exact Below.refl _ _ | exact hb_wr | refine Below.on ?_ hb_wr | refine Below.alloc_ ?_ _ | refine Below.drew ?_ | refine below_drewN ?_ | refine Below.setCell ?_ (by first | (simp; done) | (simp; omega)) _))⟩
      · by_cases hhi : rowM c k < rowV c k
        · have HBAD := Lib.hid (bad_at (c := c) hlt hall.out (by cases hr : rowOk c k; rfl; exact absurd hhi (hrow.out.1 hr).2))
          go_wp2_with (go_at_call 65; refine (refuse_any _ _ _).mono ?_; rintro e w' ⟨rfl, rfl⟩)
          go_ret2
          exact .inr ⟨k, HBAD.out, _, rfl, ErrIs.mk1 (by first | (simp; done) | (simp; omega)) (by simp [ballotS]) (by simp) (by simp), (by repeat (first | exact Below.refl _ _ | exact hb_wr | refine Below.on ?_ hb_wr | refine Below.alloc_ ?_ _ | refine Below.drew ?_ | refine below_drewN ?_ | refine Below.setCell ?_ (by first | (simp; done) | (simp; omega)) _))⟩
        · have HNX := Lib.hid (all_next hall.out (hrow.out.2 ⟨hlo, hhi⟩))
          clear hall HALL
          go_wp2
          go_roundw
          case rel => exact ⟨k + 1, by omega, by go_num, HNX, hcf.below (by omega) (by repeat (first | exact Below.refl _ _ | refine Below.alloc ?_ (by first | (simp; done) | (simp; omega)) _ | refine Below.drew ?_ | refine below_drewN ?_)), (by repeat (first | exact Below.refl _ _ | exact hb_wr | refine Below.on ?_ hb_wr | refine Below.alloc_ ?_ _ | refine Below.drew ?_ | refine below_drewN ?_ | refine Below.setCell ?_ (by first | (simp; done) | (simp; omega)) _))⟩
          case measure => simp [intOf]; omega
    · have hk10 : k = 10 := by omega
      subst hk10
      have HBAD := Lib.hid (bad_none (c := c) hall.out)
      have hr0 := hall.out 0 (by omega)
      have hf3 : 1 ≤ c.f ∧ c.f ≤ 3 := by simpa [rowOk] using hr0
      obtain ⟨hf3, hf4⟩ := hf3
      have HCF := Lib.hid hcf
      obtain ⟨_, q0, q1, q2, q3, q4, q5, q6, q7, q8, q9⟩ := hcf
      clear hall hr0
      go_wp2
      go_ret2
      refine .inl ⟨HBAD.out, _, rfl, ?_, ⟨by simp, by simp, by simp, by simp, by simp, by simp, by simp, by simp, by simp, by simp, by simp, by simp⟩, (by repeat (first | exact Below.refl _ _ | exact hb_wr | refine Below.on ?_ hb_wr | refine Below.alloc_ ?_ _ | refine Below.drew ?_ | refine below_drewN ?_ | refine Below.setCell ?_ (by first | (simp; done) | (simp; omega)) _))⟩
      have h_ := hb_wr.size
      simp
      omega
end Go.Proofs.YtehmbcpgendkjaaDoor
