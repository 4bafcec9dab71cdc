import Derived.Test.YtehmbcpgendkjaaDoorProg
import Derived.Test.YtehmbcpgendkjaaDoorBits
import Derived.Test.YtehmbcpgendkjaaDoorBase
import Derived.RangeFuncNested
import Derived.RangeFuncBound
import Derived.RangeFuncCalls
import Derived.RangeFuncLeaves
import Derived.RangeFuncFrom
import Derived.Shelf.Abstract
import Derived.Shelf.RegionOpen
import Derived.OwnWalkIn
import Derived.TacticsInMore
import Derived.LoopNIn
import Derived.LoopIn
import Derived.Laws.Bits64b
namespace Go.Proofs.YtehmbcpgendkjaaDoor
open Go.RowKit Go.Shelf
attribute [local go_sem] Oper.semAt_some
set_option linter.unusedSimpArgs false
set_option linter.unusedVariables false
/-- The library's table of lowest bits lies as its initialiser lays it. -/
def Tab (w : World) : Prop := 0 < w.heap.size ∧ ∀ j, j < 32 → w.cell? ⟨0, j, none⟩ = some (.int .u8 ((Lib.deBruijn32tab.getD j 0 : Nat) : Int))
theorem Tab.below {w w' : World} {B : Nat} (h : Tab w) (hB : w.heap.size ≤ B) (hb : Below B w w') : Tab w' :=
  ⟨Nat.lt_of_lt_of_le h.1 hb.size, fun j hj => (hb.cell (p := ⟨0, j, none⟩) (Nat.lt_of_lt_of_le h.1 hB)).trans (h.2 j hj)⟩
theorem u32_wrap (n : Int) : IntKind.u32.wrap n = n % 4294967296 := by simp [IntKind.wrap, IntKind.signed, IntKind.bits]
theorem and_u32 (a b : Nat) (ha : a < 4294967296) (hb : b < 4294967296) : bits .and .u32 (a : Int) (b : Int) = ((a &&& b : Nat) : Int) := by
  have hx : a &&& b < 2 ^ 32 := Nat.and_lt_two_pow _ (by omega)
  have h1 : (BitVec.ofInt 32 (a : Int)).toNat = a := by
    rw [BitVec.ofInt_natCast, BitVec.toNat_ofNat]; exact Nat.mod_eq_of_lt (by omega)
  have h2 : (BitVec.ofInt 32 (b : Int)).toNat = b := by
    rw [BitVec.ofInt_natCast, BitVec.toNat_ofNat]; exact Nat.mod_eq_of_lt (by omega)
  show IntKind.u32.wrap ((BitVec.ofInt 32 (a : Int) &&& BitVec.ofInt 32 (b : Int)).toNat : Int) = _
  rw [BitVec.toNat_and, h1, h2, u32_wrap]
  omega
theorem or_u32 (a b : Nat) (ha : a < 4294967296) (hb : b < 4294967296) : bits .or .u32 (a : Int) (b : Int) = ((a ||| b : Nat) : Int) := by
  have hx : a ||| b < 2 ^ 32 := Nat.or_lt_two_pow (by omega) (by omega)
  have h1 : (BitVec.ofInt 32 (a : Int)).toNat = a := by
    rw [BitVec.ofInt_natCast, BitVec.toNat_ofNat]; exact Nat.mod_eq_of_lt (by omega)
  have h2 : (BitVec.ofInt 32 (b : Int)).toNat = b := by
    rw [BitVec.ofInt_natCast, BitVec.toNat_ofNat]; exact Nat.mod_eq_of_lt (by omega)
  show IntKind.u32.wrap ((BitVec.ofInt 32 (a : Int) ||| BitVec.ofInt 32 (b : Int)).toNat : Int) = _
  rw [BitVec.toNat_or, h1, h2, u32_wrap]
  omega
theorem tz_key (x a : Nat) (hx : x < 4294967296) (hx0 : x ≠ 0) (hlow : x &&& (4294967296 - x) = a) :
    bits BinOp.and IntKind.u32 (x : Int) (-(x : Int) % 4294967296) * 125613361 % 4294967296 / 134217728 = ((a * 125613361 % 4294967296 / 134217728 : Nat) : Int) := by
  have e1 : -(x : Int) % 4294967296 = ((4294967296 - x : Nat) : Int) := by omega
  rw [e1, and_u32 x _ hx (by omega), hlow]
  omega
set_option maxHeartbeats 1000000 in
theorem tz_core (x k idx : Nat) (w : World) (hx0 : ((x : Int) == 0) = false)
    (key : bits BinOp.and IntKind.u32 (x : Int) (-(x : Int) % 4294967296) * 125613361 % 4294967296 / 134217728 = (idx : Int))
    (hi : idx < 32) (hk : k < 32) (hcell : w.cell? ⟨0, idx, none⟩ = some (.int .u8 k)) :
    Calls Tryd.prog 50 #[.int .u32 x] w fun e w' => e = .returned (.int .i64 k) ∧ w = w' := by
  go_enter Tryd.func50, Tryd.ntmps50
  go_wp2_with (simp only [key])
  go_ret
  exact ⟨rfl, rfl⟩
theorem tz_any (x : Nat) (hx : x < 4294967296) (w : World) (h0 : x ≠ 0) (hT : Tab w) :
    Calls Tryd.prog 50 #[.int .u32 x] w fun e w' => e = .returned (.int .i64 (Lib.ctz 32 x : Nat)) ∧ w = w' := by
  obtain ⟨hlow, hk⟩ := Lib.lowest_bit 32 x h0 hx
  obtain ⟨hi, htab⟩ := Lib.deBruijn32_at _ hk
  have hcell := hT.2 _ hi
  rw [htab] at hcell
  exact tz_core x _ _ w (by simp; omega) (tz_key x _ hx h0 hlow) hi hk hcell
theorem members_any (s : Nat) (w : World) : Calls Tryd.prog 9 #[.int .u32 s] w fun e w' =>
    e = .returned (.func (.func 49) #[] #[.pointer (some ⟨w.heap.size, 0, none⟩)]) ∧ w.alloc (.cells #[.int .u32 s] 26) = w' := by
  go_enter Tryd.func9, Tryd.ntmps9
  go_wp2
  go_ret
  exact ⟨rfl, rfl⟩
/-- One member of a set, as the rounds are handed it. -/
abbrev encN (x : Fin 32) : Array Value := #[.int .i64 (x.val : Int)]
theorem and_pred_val {s : Nat} (h0 : s ≠ 0) (h : s < 4294967296) : bits .and .u32 (s : Int) (((s : Int) - 1) % 4294967296) = ((s &&& (s - 1) : Nat) : Int) := by
  have e : ((s : Int) - 1) % 4294967296 = ((s - 1 : Nat) : Int) := by omega
  rw [e, and_u32 s (s - 1) h (by omega)]
set_option maxRecDepth 100000 in
set_option maxHeartbeats 2000000 in
theorem members1_in (n l b n₀ : Nat) (s : Nat) (hs : s < 4294967296) (J Jx : List (Fin 32) → World → Prop) (hn : 2 ≤ n)
    (hY : ∀ pre x W, J pre W → pre.length < 32 → YieldAt Fence.wide (n - 1) Tryd.prog l (encN x) W fun e W' =>
      (e = .returned (.bool true) ∧ J (pre ++ [x]) W' ∧ Below n₀ W W') ∨ (e = .returned (.bool false) ∧ Jx (pre ++ [x]) W'))
    (W : World) (hb : W.cell? ⟨b, 0, none⟩ = some (.int .u32 s)) (hT : Tab W) (hn₀ : 0 < n₀) (h0 : J [] W) :
    CallsIn Fence.wide n Tryd.prog 49 #[.func (.yield l) #[] #[], .pointer (some ⟨b, 0, none⟩)] W fun e W' => (∃ v, e = .returned v) ∧
      ((∃ xs : List (Fin 32), xs.map Fin.val = elems s ∧ J xs W') ∨ (∃ pre : List (Fin 32), pre.map Fin.val <+: elems s ∧ Jx pre W')) := by
  refine callsIn_of_wp Tryd.func49 rfl trivial ?_ rfl
  simp only [Tryd.ntmps49, List.size_toArray, List.length_cons, List.length_nil, Nat.reduceAdd, Nat.reduceSub, Array.replicate_succ, Array.replicate_zero, List.push_toArray, List.append_toArray, List.nil_append, List.cons_append]
  gi_wp2
  gi_loopw [3] (fun v wr => ∃ (t : Nat) (pre : List (Fin 32)), v = .int .u32 t ∧ t < 4294967296 ∧ pre.map Fin.val ++ elems t = elems s ∧ J pre wr ∧ Below n₀ W wr)
    (fun v _ => (elems (intOf v).toNat).length)
  case atStart => exact ⟨s, [], rfl, hs, rfl, h0, Below.refl _ _⟩
  case round =>
    obtain ⟨t, pre, rfl, ht, hpre, hJs, hnx⟩ := hrel
    by_cases ht0 : t = 0
    · subst ht0
      have hz : ((0 : Int) != 0) = false := by simp
      gi_wp2
      go_end0
      exact ⟨⟨_, rfl⟩, .inl ⟨pre, by rw [← hpre, elems_zero, List.append_nil], hJs⟩⟩
    · have hz : ((t : Int) != 0) = true := by simp; omega
      have hk := (low_form ht0 ht).choose_spec.2
      have hst := elems_step ht0 ht
      have hlen : pre.length < 32 := by
        have h1 := elems_len s
        rw [← hpre, hst] at h1
        simp at h1
        omega
      have TZ := tz_any t ht wr ht0 ⟨Nat.lt_of_lt_of_le hT.1 hnx.size, fun j hj => (hnx.cell (p := ⟨0, j, none⟩) hn₀).trans (hT.2 j hj)⟩
      obtain ⟨fn, tmps, assign, body, hy, hR⟩ := hY pre ⟨Lib.ctz 32 t, hk⟩ wr hJs hlen
      have HA := Lib.hid (and_pred_val ht0 ht)
      have HST := Lib.hid hst
      have HP := Lib.hid hpre
      have HT0 := Lib.hid ht0
      clear hst hpre ht0
      gi_wp2_with fail
      refine ⟨trivial, fun h => by simp [Fence.wide] at h, (callsIn_wide.2 TZ).mono ?_⟩
      rintro e w' ⟨rfl, rfl⟩
      gi_wp2
      refine ⟨fun _ => by omega, hR.mono ?_⟩
      rintro e W3 (⟨rfl, hJ3, hk3⟩ | ⟨rfl, hJx3⟩)
      · gi_wp2
        go_roundw
        case rel => exact ⟨t &&& (t - 1), pre ++ [⟨Lib.ctz 32 t, hk⟩], by rw [HA.out], and_lt _ ht, by rw [← HP.out, HST.out]; simp, hJ3, hnx.trans hk3⟩
        case measure => rw [HA.out]; simp only [intOf, Int.toNat_natCast]; rw [HST.out]; simp
      · gi_wp2
        refine bodyPost_ret (results_none rfl _ _ _) rfl ?_
        exact ⟨⟨_, rfl⟩, .inr ⟨pre ++ [⟨Lib.ctz 32 t, hk⟩], ⟨elems (t &&& (t - 1)), by rw [← HP.out, HST.out]; simp⟩, hJx3⟩⟩
theorem members_stops (n b n₀ : Nat) (s : Nat) (hs : s < 4294967296) (hn : 2 ≤ n) (w : World) (hbw : b < w.heap.size) (hn₀ : n₀ ≤ w.heap.size) (hb : w.cell? ⟨b, 0, none⟩ = some (.int .u32 s)) (hT : Tab w) (ht : 0 < n₀) :
    SeqStopsK Fence.wide n Tryd.prog 49 #[.pointer (some ⟨b, 0, none⟩)] encN (Below n₀) (fun xs => xs.map Fin.val = elems s) (fun pre => pre.map Fin.val <+: elems s) 32 w := fun l J Jx W hW _ _ hY h0 =>
  members1_in n l b n₀ s hs J Jx hn hY W ((hW.cell (p := ⟨b, 0, none⟩) hbw).trans hb) (hT.below (Nat.le_refl _) hW) ht h0
end Go.Proofs.YtehmbcpgendkjaaDoor
