import Derived.Test.YtfapaehjmbekpaaDoorWScan
import Derived.Test.YtfapaehjmbekpaaDoorCrcBit
import Derived.Laws.ShiftsVarLaws
import Derived.Outline
namespace Go.Proofs.YtfapaehjmbekpaaDoor
open Go.RowKit
set_option linter.unusedSimpArgs false
set_option linter.unusedVariables false
theorem bit_go {u x j : Nat} (hu : u < 4294967296) (hx : x < 256) :
    bits .and .u32 ((x : Int) / 2 ^ j) 1 = (((x >>> j) &&& 1 : Nat) : Int) ∧ bits .xor .u32 (bits .and .u32 (u : Int) 1) (((x >>> j) &&& 1 : Nat) : Int) = (((u &&& 1) ^^^ ((x >>> j) &&& 1) : Nat) : Int) ∧
    (u : Int) / (2 : Int) = ((u >>> 1 : Nat) : Int) ∧ bits .xor .u32 ((u >>> 1 : Nat) : Int) 2197175160 = (((u >>> 1) ^^^ 2197175160 : Nat) : Int) := by
  have h1 : (x : Int) / 2 ^ j = ((x >>> j : Nat) : Int) := by rw [Nat.shiftRight_eq_div_pow]; simp
  have h2 : x >>> j < 4294967296 := by rw [Nat.shiftRight_eq_div_pow]; exact Nat.lt_of_le_of_lt (Nat.div_le_self _ _) (by omega)
  have h3 : ∀ a : Nat, a &&& 1 < 4294967296 := fun a => Nat.lt_of_le_of_lt Nat.and_le_right (by omega)
  refine ⟨?_, ?_, ?_, ?_⟩
  · rw [h1]; exact and_u32 _ 1 h2 (by omega)
  · rw [show bits .and .u32 (u : Int) 1 = ((u &&& 1 : Nat) : Int) from and_u32 u 1 hu (by omega)]
    exact xor_u32 _ _ (h3 _) (h3 _)
  · rw [Nat.shiftRight_eq_div_pow]; simp
  · exact xor_u32 _ 2197175160 (shr_lt32 1 hu) (by omega)
theorem bit_eq {u x j : Nat} (hu : u < 4294967296) (hx : x < 256) :
    (bits .xor .u32 (bits .and .u32 (u : Int) 1) (bits .and .u32 ((x : Int) / 2 ^ j % 4294967296) 1) == 1) = decide ((u &&& 1) ^^^ ((x >>> j) &&& 1) = 1) := by
  obtain ⟨h1, h2, _, _⟩ := bit_go (j := j) hu hx
  have h3 : (x : Int) / 2 ^ j % 4294967296 = (x : Int) / 2 ^ j := by
    have e : (x : Int) / 2 ^ j = ((x / 2 ^ j : Nat) : Int) := by simp
    have h4 : x / 2 ^ j ≤ x := Nat.div_le_self _ _
    rw [e]
    generalize x / 2 ^ j = y at *
    exact Int.emod_eq_of_lt (Int.natCast_nonneg _) (by omega)
  rw [h3, h1, h2, Bool.eq_iff_iff, beq_iff_eq, decide_eq_true_eq]
  generalize (u &&& 1) ^^^ ((x >>> j) &&& 1) = a
  omega
set_option maxRecDepth 100000 in
set_option maxHeartbeats 1600000 in
theorem rsum_at (p : Option Addr) (n c : Nat) (l : List Int) (w : World) (hl : l.length = n) (hm : n ≤ maxLen) (hr : RdB w p l) (hB : Byt l) :
    Calls Tryd.prog 27 #[.slice p n c] w fun e w' => e = .returned (.int .u32 (crc l : Nat)) ∧ w = w' := by
  have HR := Lib.hid hr
  have HY := Lib.hid hB
  unfold maxLen at hm
  clear hr hB
  replace hl := Lib.hid hl
  go_enter Tryd.func27, Tryd.ntmps27
  go_wp2
  go_loop [3, 4] (fun t i => ∃ k : Nat, k ≤ n ∧ i = .int .i64 k ∧ t = .int .u32 (crcFrom 4294967295 (l.take k) : Nat)) (fun _ i => n - (intOf i).toNat)
  case atStart => exact ⟨0, Nat.zero_le _, rfl, rfl⟩
  case round =>
    obtain ⟨k, hk, rfl, rfl⟩ := hrel
    have hc := crcFrom_lt (l := l.take k) (c := 4294967295) (by omega)
    have hcs := Lib.hid (fun h => crcFrom_take (c := 4294967295) (k := k) (l := l) h)
    generalize ht : crcFrom 4294967295 (l.take k) = t at *
    replace ht := Lib.hid ht
    by_cases hlt : k < n
    · obtain ⟨b, o, rfl, hb, hcl⟩ := HR.out k (by rw [hl.out]; exact hlt)
      obtain ⟨x, hx⟩ : ∃ x : Nat, l[k]'(by rw [hl.out]; exact hlt) = (x : Int) := ⟨_, (Int.toNat_of_nonneg (HY.out k (by rw [hl.out]; exact hlt)).1).symm⟩
      have hx2 := (HY.out k (by rw [hl.out]; exact hlt)).2
      have hcs := Lib.hid (hcs.out (by rw [hl.out]; exact hlt))
      rw [hx] at hcl hx2 hcs
      have hx3 : x < 256 := by omega
      replace hx := Lib.hid hx
      go_wp2
      go_loop [3, 5] (fun u i => ∃ j : Nat, j ≤ 8 ∧ i = .int .i64 j ∧ u = .int .u32 (bitsTo t x j : Nat)) (fun _ i => 8 - (intOf i).toNat)
      case atStart => exact ⟨0, by omega, rfl, rfl⟩
      case round =>
        obtain ⟨j, hj, rfl, rfl⟩ := hrel
        have hbl := bitsTo_lt (x := x) hc j
        have hbs : Hid (bitsTo t x (j + 1) = bitS (bitsTo t x j) ((x >>> j) &&& 1)) := Lib.hid rfl
        generalize hu : bitsTo t x j = u at *
        replace hu := Lib.hid hu
        by_cases hj8 : j < 8
        · have hj0 : (0 : Int) ≤ (j : Int) := Int.natCast_nonneg _
          have hj1 : (j : Int) < 8 := by omega
          have hE := bit_eq (u := u) (x := x) (j := j) hbl hx3
          obtain ⟨_, _, b3, b4⟩ := bit_go (x := x) (j := j) hbl hx3
          by_cases h1 : (u &&& 1) ^^^ ((x >>> j) &&& 1) = 1
          · have e3 : Hid (bitS u ((x >>> j) &&& 1) = (u >>> 1) ^^^ 2197175160) := Lib.hid (by unfold bitS; rw [if_pos h1])
            rw [decide_eq_true h1] at hE
            replace b3 := Lib.hid b3
            replace b4 := Lib.hid b4
            clear h1
            go_wp2
            go_round
            case rel => exact ⟨j + 1, by omega, by go_num, by rw [hbs.out, e3.out, b3.out, b4.out]⟩
            case measure => simp [intOf]; omega
          · have e3 : Hid (bitS u ((x >>> j) &&& 1) = u >>> 1) := Lib.hid (by unfold bitS; rw [if_neg h1])
            rw [decide_eq_false h1] at hE
            replace b3 := Lib.hid b3
            clear b4
            clear h1
            go_wp2
            go_round
            case rel => exact ⟨j + 1, by omega, by go_num, by rw [hbs.out, e3.out, b3.out]⟩
            case measure => simp [intOf]; omega
        · obtain rfl : j = 8 := by omega
          have h8 : Hid (u = crcStep t x) := Lib.hid (by rw [← hu.out, bits8])
          go_wp2
          go_round
          case rel => exact ⟨k + 1, by omega, by go_num, by rw [hcs.out, h8.out, Int.toNat_natCast]⟩
          case measure => simp [intOf]; omega
    · obtain rfl : k = n := by omega
      have hE : Hid (crc l = 4294967295 - t) := by
        refine Lib.hid ?_
        rw [List.take_of_length_le (by rw [hl.out]; exact Nat.le_refl _)] at ht
        unfold crc
        rw [ht.out]
      have hX : Hid (bits .xor .u32 (t : Int) 4294967295 = ((4294967295 - t : Nat) : Int)) := Lib.hid (by
        rw [show (4294967295 : Int) = ((4294967295 : Nat) : Int) from rfl, xor_u32 _ _ hc (by omega), Nat.xor_comm, not_xor hc])
      go_wp2
      go_ret
      exact ⟨by rw [hE.out, ← hX.out]; rfl, rfl⟩
set_option maxRecDepth 100000 in
set_option maxHeartbeats 1600000 in
theorem rcopy_at (p : Option Addr) (n c : Nat) (l : List Int) (w : World) (hl : l.length = n) (hm : n ≤ 1000000000000) (hr : RdB w p l) :
    Calls Tryd.prog 36 #[.slice p n c] w fun e w' => ∃ v', e = .returned v' ∧ OwnB w' w.heap.size v' l ∧ Below w.heap.size w w' := by
  have HR := Lib.hid hr
  replace hl := Lib.hid hl
  clear hr
  go_enter Tryd.func36, Tryd.ntmps36
  go_wp2
  go_loopw [3, 4] (fun t i wr => ∃ k : Nat, k ≤ n ∧ i = .int .i64 k ∧ OwnB wr w.heap.size t (l.take k) ∧ Below w.heap.size w wr) (fun _ i _ => n - (intOf i).toNat)
  case atStart => exact ⟨0, Nat.zero_le _, rfl, ownB_nil _ _, Below.refl _ _⟩
  case round =>
    obtain ⟨k, hk, rfl, ho, hB⟩ := hrel
    have hsz := hB.size
    by_cases hlt : k < n
    · obtain ⟨b, o, rfl, hb, hc⟩ := (HR.out.below hB).at (k := k) (by rw [hl.out]; exact hlt)
      have htn := List.take_succ_eq_append_getElem (l := l) (i := k) (by rw [hl.out]; exact hlt)
      obtain ⟨x, hx⟩ : ∃ x, x = l[k]'(by rw [hl.out]; exact hlt) := ⟨_, rfl⟩
      rw [← hx] at hc htn
      have htl : (l.take k).length ≤ k := List.length_take_le _ _
      replace htn := Lib.hid htn
      replace ho := Lib.hid ho
      replace hB := Lib.hid hB
      clear hx
      go_wp2_with (at_builtin; go_loud (refine byte_list rfl _ _ rfl w.heap.size _ (l.take k) rfl (ho.out.below (Below.alloc_ (Below.refl _ _) _)) _ 1 1 [x] rfl rfl (World.news_of_block (cs := #[.int .u8 x]) (t := 5) (fr := (0, 0)) (heap_alloc_new wr _)) (by omega) (by simp; omega) ?_))
      intro v3 w3 ho3 hg3
      rw [← htn.out] at ho3
      replace ho3 := Lib.hid ho3
      have hB3 := Lib.hid (hB.out.trans (((Below.refl _ wr).alloc hsz _).trans hg3))
      clear hg3
      go_wp2
      go_roundw
      case rel => exact ⟨k + 1, by omega, by go_num, ho3.out, hB3.out⟩
      case measure => simp [intOf]; omega
    · obtain rfl : k = n := by omega
      rw [List.take_of_length_le (by rw [hl.out]; exact Nat.le_refl _)] at ho
      replace ho := Lib.hid ho
      go_wp2
      go_ret
      exact ⟨_, rfl, ho.out, hB⟩
set_option maxRecDepth 100000 in
set_option maxHeartbeats 1600000 in
theorem rjoin_at (p q : Option Addr) (n c m d : Nat) (l0 l : List Int) (w : World) (hl0 : l0.length = n) (hl : l.length = m) (hn : n ≤ 1000000000) (hm : m ≤ 1000000000) (hr0 : RdB w p l0) (hr : RdB w q l) :
    Calls Tryd.prog 24 #[.slice p n c, .slice q m d] w fun e w' => ∃ v', e = .returned v' ∧ OwnB w' w.heap.size v' (l0 ++ l) ∧ Below w.heap.size w w' := by
  have C := Lib.hid (rcopy_at p n c l0 w hl0 (by omega) hr0)
  have HR := Lib.hid hr
  replace hl := Lib.hid hl
  replace hl0 := Lib.hid hl0
  clear hr hr0
  go_enter Tryd.func24, Tryd.ntmps24
  go_wp2_with fail
  refine C.out.mono ?_
  rintro e w1 ⟨v1, rfl, ho1, hb1⟩
  replace ho1 := Lib.hid ho1
  replace hb1 := Lib.hid hb1
  go_wp2
  go_loopw [5, 6] (fun t i wr => ∃ k : Nat, k ≤ m ∧ i = .int .i64 k ∧ OwnB wr w.heap.size t (l0 ++ l.take k) ∧ Below w.heap.size w wr) (fun _ i _ => m - (intOf i).toNat)
  case atStart => exact ⟨0, Nat.zero_le _, rfl, by simpa using ho1.out, hb1.out⟩
  case round =>
    obtain ⟨k, hk, rfl, ho, hB⟩ := hrel
    have hsz := hB.size
    by_cases hlt : k < m
    · obtain ⟨b, o, rfl, hb, hc⟩ := (HR.out.below hB).at (k := k) (by rw [hl.out]; exact hlt)
      have htn := List.take_succ_eq_append_getElem (l := l) (i := k) (by rw [hl.out]; exact hlt)
      obtain ⟨x, hx⟩ : ∃ x, x = l[k]'(by rw [hl.out]; exact hlt) := ⟨_, rfl⟩
      rw [← hx] at hc htn
      have htl : (l0 ++ l.take k).length ≤ n + k := by rw [List.length_append, hl0.out]; have := List.length_take_le k l; omega
      replace htn := Lib.hid htn
      replace ho := Lib.hid ho
      replace hB := Lib.hid hB
      clear hx
      go_wp2_with (at_builtin; go_loud (refine byte_list rfl _ _ rfl w.heap.size _ (l0 ++ l.take k) rfl (ho.out.below (Below.alloc_ (Below.refl _ _) _)) _ 1 1 [x] rfl rfl (World.news_of_block (cs := #[.int .u8 x]) (t := 5) (fr := (0, 0)) (heap_alloc_new wr _)) (by omega) (by simp; omega) ?_))
      intro v3 w3 ho3 hg3
      have ho3 : OwnB w3 w.heap.size v3 (l0 ++ l.take (k + 1)) := by rw [htn.out]; simpa [List.append_assoc] using ho3
      replace ho3 := Lib.hid ho3
      have hB3 := Lib.hid (hB.out.trans (((Below.refl _ wr).alloc hsz _).trans hg3))
      clear hg3
      go_wp2
      go_roundw
      case rel => exact ⟨k + 1, by omega, by go_num, ho3.out, hB3.out⟩
      case measure => simp [intOf]; omega
    · obtain rfl : k = m := by omega
      rw [List.take_of_length_le (by rw [hl.out]; exact Nat.le_refl _)] at ho
      replace ho := Lib.hid ho
      go_wp2
      go_ret
      exact ⟨_, rfl, ho.out, hB⟩
set_option maxRecDepth 100000 in
set_option maxHeartbeats 1600000 in
theorem rlow_at (x : Nat) (w : World) (hx : x < 4294967296) :
    Calls Tryd.prog 26 #[.int .u32 x] w fun e w' => e = .returned (.slice (some ⟨w.heap.size, 0, none⟩) 4 4) ∧ RdB w' (some ⟨w.heap.size, 0, none⟩) (le32 x) ∧ Below w.heap.size w w' := by
  have hlit := Lib.hid (ownB_lit w (le32 x) (by simp [le32]))
  go_enter Tryd.func26, Tryd.ntmps26
  go_wp2
  go_ret
  exact ⟨rfl, (OwnB.rd hlit.out).2, Below.alloc_ (Below.refl _ _) _⟩
end Go.Proofs.YtfapaehjmbekpaaDoor
