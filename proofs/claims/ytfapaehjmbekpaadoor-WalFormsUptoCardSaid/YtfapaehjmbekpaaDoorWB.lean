import Derived.Test.YtfapaehjmbekpaaDoorProg
import Derived.Test.YtfapaehjmbekpaaDoorBase
import Derived.Test.YtfapaehjmbekpaaDoorCrc
import Derived.LoopTactic
import Derived.LoopN
import Derived.OwnWalk
import Derived.Maps.AppendAt
import Derived.Laws.OwnMore
import Derived.Deep.AppendLies
import Derived.Lib.SliceRun
namespace Go.Proofs.YtfapaehjmbekpaaDoor
open Go.RowKit
set_option linter.unusedSimpArgs false
set_option linter.unusedVariables false
theorem u32_wrap (n : Int) : IntKind.u32.wrap n = n % 4294967296 := by simp [IntKind.wrap, IntKind.signed, IntKind.bits]
theorem and_u32 (a b : Nat) (ha : a < 4294967296) (hb : b < 4294967296) : bits .and .u32 (a : Int) (b : Int) = ((a &&& b : Nat) : Int) := by
  have hx : a &&& b < 2 ^ 32 := Nat.and_lt_two_pow _ (by omega)
  have h1 : (BitVec.ofInt 32 (a : Int)).toNat = a := by
    rw [BitVec.ofInt_natCast, BitVec.toNat_ofNat]; exact Nat.mod_eq_of_lt (by omega)
  have h2 : (BitVec.ofInt 32 (b : Int)).toNat = b := by
    rw [BitVec.ofInt_natCast, BitVec.toNat_ofNat]; exact Nat.mod_eq_of_lt (by omega)
  show IntKind.u32.wrap ((BitVec.ofInt 32 (a : Int) &&& BitVec.ofInt 32 (b : Int)).toNat : Int) = _
  rw [BitVec.toNat_and, h1, h2, u32_wrap]
  omega
theorem xor_u32 (a b : Nat) (ha : a < 4294967296) (hb : b < 4294967296) : bits .xor .u32 (a : Int) (b : Int) = ((a ^^^ b : Nat) : Int) := by
  have hx : a ^^^ b < 2 ^ 32 := Nat.xor_lt_two_pow (by omega) (by omega)
  have h1 : (BitVec.ofInt 32 (a : Int)).toNat = a := by
    rw [BitVec.ofInt_natCast, BitVec.toNat_ofNat]; exact Nat.mod_eq_of_lt (by omega)
  have h2 : (BitVec.ofInt 32 (b : Int)).toNat = b := by
    rw [BitVec.ofInt_natCast, BitVec.toNat_ofNat]; exact Nat.mod_eq_of_lt (by omega)
  show IntKind.u32.wrap ((BitVec.ofInt 32 (a : Int) ^^^ BitVec.ofInt 32 (b : Int)).toNat : Int) = _
  rw [BitVec.toNat_xor, h1, h2, u32_wrap]
  omega
/-- The table lies as its text lays it. -/
def Nib (w : World) : Prop := 0 < w.heap.size ∧ ∀ j, j < 16 → w.cell? ⟨0, j, none⟩ = some (.int .u32 ((nibT j : Nat) : Int))
theorem Nib.below {w w' : World} {B : Nat} (h : Nib w) (hB : w.heap.size ≤ B) (hb : Below B w w') : Nib w' :=
  ⟨Nat.lt_of_lt_of_le h.1 hb.size, fun j hj => (hb.cell (p := ⟨0, j, none⟩) (Nat.lt_of_lt_of_le h.1 hB)).trans (h.2 j hj)⟩
/-- Bytes at an address. -/
def RdB (w : World) (p : Option Addr) (l : List Int) : Prop := ∀ j (h : j < l.length), ∃ b o, p = some ⟨b, o, none⟩ ∧ b < w.heap.size ∧ w.cell? ⟨b, o + j, none⟩ = some (.int .u8 l[j])
def Byt (l : List Int) : Prop := ∀ j (h : j < l.length), 0 ≤ l[j] ∧ l[j] < 256
theorem RdB.below {w w' : World} {p : Option Addr} {l : List Int} (h : RdB w p l) (hb : Below w.heap.size w w') : RdB w' p l := fun j hj => by
  obtain ⟨b, o, h1, h2, h3⟩ := h j hj
  exact ⟨b, o, h1, Nat.lt_of_lt_of_le h2 hb.size, (hb.cell (p := ⟨b, o + j, none⟩) h2).trans h3⟩
theorem nib_go {c x : Nat} {w : World} (hc : c < 4294967296) (hx : x < 256) (hT : Nib w) :
    bits .and .u32 (bits .xor .u32 (c : Int) (x : Int)) 15 = (((c ^^^ x) &&& 15 : Nat) : Int) ∧ w.cell? ⟨0, (c ^^^ x) &&& 15, none⟩ = some (.int .u32 (nibT ((c ^^^ x) &&& 15) : Nat)) ∧
    bits .xor .u32 ((nibT ((c ^^^ x) &&& 15) : Nat) : Int) ((c : Int) / 16) = ((nib c x : Nat) : Int) := by
  refine ⟨?_, hT.2 _ (Nat.lt_of_le_of_lt Nat.and_le_right (by omega)), ?_⟩
  · rw [xor_u32 c x hc (by omega)]
    exact and_u32 _ 15 (xor_lt32 hc (by omega)) (by omega)
  · have h3 : (c : Int) / 16 = ((c / 16 : Nat) : Int) := by simp
    rw [h3, xor_u32 _ _ (nibT_lt _) (by omega)]
    unfold nib
    rw [Nat.shiftRight_eq_div_pow]
set_option maxRecDepth 100000 in
set_option maxHeartbeats 1600000 in
theorem sum_at (p : Option Addr) (n c : Nat) (l : List Int) (w : World) (hl : l.length = n) (hm : n ≤ maxLen) (hr : RdB w p l) (hB : Byt l) (hT : Nib w) :
    Calls Tryd.prog 22 #[.slice p n c] w fun e w' => e = .returned (.int .u32 (crc l : Nat)) ∧ w = w' := by
  have HR := Lib.hid hr
  have HY := Lib.hid hB
  have HT := Lib.hid hT
  unfold maxLen at hm
  clear hr hB hT
  replace hl := Lib.hid hl
  go_enter Tryd.func22, Tryd.ntmps22
  go_wp2
  go_loop [3, 8] (fun t i => ∃ k : Nat, k ≤ n ∧ i = .int .i64 k ∧ t = .int .u32 (crcFrom 4294967295 (l.take k) : Nat)) (fun _ i => n - (intOf i).toNat)
  case atStart => exact ⟨0, Nat.zero_le _, rfl, rfl⟩
  case round =>
    obtain ⟨k, hk, rfl, rfl⟩ := hrel
    have hc := crcFrom_lt (l := l.take k) (c := 4294967295) (by omega)
    have hcs := Lib.hid (fun h => crcFrom_take (c := 4294967295) (k := k) (l := l) h)
    generalize ht : crcFrom 4294967295 (l.take k) = t at *
    replace ht := Lib.hid ht
    by_cases hlt : k < n
    · obtain ⟨b, o, rfl, hb, hcl⟩ := HR.out k (by rw [hl.out]; exact hlt)
      obtain ⟨x, hx⟩ : ∃ x : Nat, l[k]'(by rw [hl.out]; exact hlt) = (x : Int) := ⟨_, (Int.toNat_of_nonneg (HY.out k (by rw [hl.out]; exact hlt)).1).symm⟩
      have hx2 := (HY.out k (by rw [hl.out]; exact hlt)).2
      have hcs := Lib.hid (hcs.out (by rw [hl.out]; exact hlt))
      rw [hx] at hcl hx2 hcs
      have hx3 : x < 256 := by omega
      replace hx := Lib.hid hx
      obtain ⟨g1, g2, g3⟩ := nib_go hc hx3 HT.out
      obtain ⟨i, hi⟩ : ∃ i, i = (t ^^^ x) &&& 15 := ⟨_, rfl⟩
      obtain ⟨T, hT⟩ : ∃ T, T = nibT i := ⟨_, rfl⟩
      rw [← hi] at g1 g2 g3
      rw [← hT] at g2 g3
      obtain ⟨u, hu⟩ : ∃ u, u = nib t x := ⟨_, rfl⟩
      rw [← hu] at g3
      have hi16 : i < 16 := by rw [hi]; exact Nat.lt_of_le_of_lt Nat.and_le_right (by omega)
      have hul : u < 4294967296 := by rw [hu]; exact nib_lt hc
      have hTl : T < 4294967296 := by rw [hT]; exact nibT_lt _
      obtain ⟨f1, f2, f3⟩ := nib_go hul (x := x / 16) (by omega) HT.out
      obtain ⟨i', hi'⟩ : ∃ i', i' = (u ^^^ (x / 16)) &&& 15 := ⟨_, rfl⟩
      obtain ⟨T', hT'⟩ : ∃ T', T' = nibT i' := ⟨_, rfl⟩
      rw [← hi'] at f1 f2 f3
      rw [← hT'] at f2 f3
      have hi16' : i' < 16 := by rw [hi']; exact Nat.lt_of_le_of_lt Nat.and_le_right (by omega)
      have hTl' : T' < 4294967296 := by rw [hT']; exact nibT_lt _
      obtain ⟨v, hv⟩ : ∃ v, v = nib u (x / 16) := ⟨_, rfl⟩
      rw [← hv] at f3
      have hst : Hid (v = crcStep t x) := Lib.hid (by rw [hv, hu]; unfold crcStep; rw [Nat.shiftRight_eq_div_pow])
      rw [show ((x / 16 : Nat) : Int) = (x : Int) / 16 from by simp] at f1
      clear hi hT hu hi' hT' hv
      go_wp2
      go_round
      case rel => exact ⟨k + 1, by omega, by go_num, by rw [hcs.out, hst.out, Int.toNat_natCast]⟩
      case measure => simp [intOf]; omega
    · obtain rfl : k = n := by omega
      have hE : Hid (crc l = 4294967295 - t) := by
        refine Lib.hid ?_
        rw [List.take_of_length_le (by rw [hl.out]; exact Nat.le_refl _)] at ht
        unfold crc
        rw [ht.out]
      go_wp2
      go_ret
      refine ⟨?_, rfl⟩
      rw [hE.out]
      show Ending.returned (.int .u32 (bits .xor .u32 IntKind.u32.max (t : Int))) = _
      rw [show IntKind.u32.max = ((4294967295 : Nat) : Int) from rfl, xor_u32 _ _ (by omega) hc, not_xor hc]
end Go.Proofs.YtfapaehjmbekpaaDoor
