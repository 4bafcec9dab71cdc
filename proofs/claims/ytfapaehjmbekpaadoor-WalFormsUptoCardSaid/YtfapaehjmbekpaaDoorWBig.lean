import Derived.Test.YtfapaehjmbekpaaDoorWRef
namespace Go.Proofs.YtfapaehjmbekpaaDoor
open Go.RowKit
set_option linter.unusedSimpArgs false
set_option linter.unusedVariables false
set_option maxRecDepth 100000 in
set_option maxHeartbeats 1600000 in
theorem rbig4_at (x : Nat) (w : World) (hx : x < 4294967296) :
    Calls Tryd.prog 25 #[.int .u64 x, .int .i64 4] w fun e w' => ∃ v', e = .returned v' ∧ OwnB w' w.heap.size v' (be32 x) ∧ Below w.heap.size w w' := by
  have hx' : (x : Int) < 4294967296 := by omega
  have hb0 := Lib.hid (Below.refl w.heap.size w)
  have ho0 := Lib.hid (ownB_nil w w.heap.size)
  go_enter Tryd.func25, Tryd.ntmps25
  go_wp2
  refine wp_loop_rounds 5 ?_
  rw [rounds_succ]
  go_wp2_with (at_builtin; go_loud (refine byte_list rfl _ _ rfl w.heap.size (Value.slice none 0 0) [] rfl (ho0.out.below (Below.alloc_ (Below.refl _ _) _)) _ 1 1 [_] rfl rfl (World.news_of_block (cs := #[.int .u8 _]) (t := 5) (fr := (0, 0)) (heap_alloc_new w _)) (by simp) (Nat.le_trans hb0.out.size (by simp)) ?_))
  intro v1 w1 ho_ hg_
  have hb1 := Lib.hid (hb0.out.trans (((Below.refl _ w).alloc hb0.out.size _).trans hg_))
  clear hg_
  have ho1 := Lib.hid ho_
  clear ho_
  go_wp2
  rw [rounds_succ]
  go_wp2_with (at_builtin; go_loud (refine byte_list rfl _ _ rfl w.heap.size v1 _ rfl (ho1.out.below (Below.alloc_ (Below.refl _ _) _)) _ 1 1 [_] rfl rfl (World.news_of_block (cs := #[.int .u8 _]) (t := 5) (fr := (0, 0)) (heap_alloc_new w1 _)) (by simp) (Nat.le_trans hb1.out.size (by simp)) ?_))
  intro v2 w2 ho_ hg_
  have hb2 := Lib.hid (hb1.out.trans (((Below.refl _ w1).alloc hb1.out.size _).trans hg_))
  clear hg_
  have ho2 := Lib.hid ho_
  clear ho_
  go_wp2
  rw [rounds_succ]
  go_wp2_with (at_builtin; go_loud (refine byte_list rfl _ _ rfl w.heap.size v2 _ rfl (ho2.out.below (Below.alloc_ (Below.refl _ _) _)) _ 1 1 [_] rfl rfl (World.news_of_block (cs := #[.int .u8 _]) (t := 5) (fr := (0, 0)) (heap_alloc_new w2 _)) (by simp) (Nat.le_trans hb2.out.size (by simp)) ?_))
  intro v3 w3 ho_ hg_
  have hb3 := Lib.hid (hb2.out.trans (((Below.refl _ w2).alloc hb2.out.size _).trans hg_))
  clear hg_
  have ho3 := Lib.hid ho_
  clear ho_
  go_wp2
  rw [rounds_succ]
  go_wp2_with (at_builtin; go_loud (refine byte_list rfl _ _ rfl w.heap.size v3 _ rfl (ho3.out.below (Below.alloc_ (Below.refl _ _) _)) _ 1 1 [_] rfl rfl (World.news_of_block (cs := #[.int .u8 _]) (t := 5) (fr := (0, 0)) (heap_alloc_new w3 _)) (by simp) (Nat.le_trans hb3.out.size (by simp)) ?_))
  intro v4 w4 ho_ hg_
  have hb4 := Lib.hid (hb3.out.trans (((Below.refl _ w3).alloc hb3.out.size _).trans hg_))
  clear hg_
  have ho4 := Lib.hid ho_
  clear ho_
  go_wp2
  rw [rounds_succ]
  go_wp2
  go_ret
  refine ⟨v4, rfl, ?_, hb4.out⟩
  have h := ho4.out
  have e : be32 x = [] ++ [(x : Int) / 16777216] ++ [(x : Int) / 65536 % 256] ++ [(x : Int) / 256 % 256] ++ [(x : Int) % 256] := rfl
  rw [e]
  exact h
set_option maxRecDepth 100000 in
set_option maxHeartbeats 1600000 in
theorem rbig8_at (x : Nat) (w : World) (hx : x ≤ 4611686018427387904) :
    Calls Tryd.prog 25 #[.int .u64 x, .int .i64 8] w fun e w' => ∃ v', e = .returned v' ∧ OwnB w' w.heap.size v' (be32 (x / 4294967296) ++ be32 (x % 4294967296)) ∧ Below w.heap.size w w' := by
  have hx' : (x : Int) ≤ 4611686018427387904 := by omega
  have hb0 := Lib.hid (Below.refl w.heap.size w)
  have ho0 := Lib.hid (ownB_nil w w.heap.size)
  go_enter Tryd.func25, Tryd.ntmps25
  go_wp2
  refine wp_loop_rounds 9 ?_
  rw [rounds_succ]
  go_wp2_with (at_builtin; go_loud (refine byte_list rfl _ _ rfl w.heap.size (Value.slice none 0 0) [] rfl (ho0.out.below (Below.alloc_ (Below.refl _ _) _)) _ 1 1 [_] rfl rfl (World.news_of_block (cs := #[.int .u8 _]) (t := 5) (fr := (0, 0)) (heap_alloc_new w _)) (by simp) (Nat.le_trans hb0.out.size (by simp)) ?_))
  intro v1 w1 ho_ hg_
  have hb1 := Lib.hid (hb0.out.trans (((Below.refl _ w).alloc hb0.out.size _).trans hg_))
  clear hg_
  have ho1 := Lib.hid ho_
  clear ho_
  go_wp2
  rw [rounds_succ]
  go_wp2_with (at_builtin; go_loud (refine byte_list rfl _ _ rfl w.heap.size v1 _ rfl (ho1.out.below (Below.alloc_ (Below.refl _ _) _)) _ 1 1 [_] rfl rfl (World.news_of_block (cs := #[.int .u8 _]) (t := 5) (fr := (0, 0)) (heap_alloc_new w1 _)) (by simp) (Nat.le_trans hb1.out.size (by simp)) ?_))
  intro v2 w2 ho_ hg_
  have hb2 := Lib.hid (hb1.out.trans (((Below.refl _ w1).alloc hb1.out.size _).trans hg_))
  clear hg_
  have ho2 := Lib.hid ho_
  clear ho_
  go_wp2
  rw [rounds_succ]
  go_wp2_with (at_builtin; go_loud (refine byte_list rfl _ _ rfl w.heap.size v2 _ rfl (ho2.out.below (Below.alloc_ (Below.refl _ _) _)) _ 1 1 [_] rfl rfl (World.news_of_block (cs := #[.int .u8 _]) (t := 5) (fr := (0, 0)) (heap_alloc_new w2 _)) (by simp) (Nat.le_trans hb2.out.size (by simp)) ?_))
  intro v3 w3 ho_ hg_
  have hb3 := Lib.hid (hb2.out.trans (((Below.refl _ w2).alloc hb2.out.size _).trans hg_))
  clear hg_
  have ho3 := Lib.hid ho_
  clear ho_
  go_wp2
  rw [rounds_succ]
  go_wp2_with (at_builtin; go_loud (refine byte_list rfl _ _ rfl w.heap.size v3 _ rfl (ho3.out.below (Below.alloc_ (Below.refl _ _) _)) _ 1 1 [_] rfl rfl (World.news_of_block (cs := #[.int .u8 _]) (t := 5) (fr := (0, 0)) (heap_alloc_new w3 _)) (by simp) (Nat.le_trans hb3.out.size (by simp)) ?_))
  intro v4 w4 ho_ hg_
  have hb4 := Lib.hid (hb3.out.trans (((Below.refl _ w3).alloc hb3.out.size _).trans hg_))
  clear hg_
  have ho4 := Lib.hid ho_
  clear ho_
  go_wp2
  rw [rounds_succ]
  go_wp2_with (at_builtin; go_loud (refine byte_list rfl _ _ rfl w.heap.size v4 _ rfl (ho4.out.below (Below.alloc_ (Below.refl _ _) _)) _ 1 1 [_] rfl rfl (World.news_of_block (cs := #[.int .u8 _]) (t := 5) (fr := (0, 0)) (heap_alloc_new w4 _)) (by simp) (Nat.le_trans hb4.out.size (by simp)) ?_))
  intro v5 w5 ho_ hg_
  have hb5 := Lib.hid (hb4.out.trans (((Below.refl _ w4).alloc hb4.out.size _).trans hg_))
  clear hg_
  have ho5 := Lib.hid ho_
  clear ho_
  go_wp2
  rw [rounds_succ]
  go_wp2_with (at_builtin; go_loud (refine byte_list rfl _ _ rfl w.heap.size v5 _ rfl (ho5.out.below (Below.alloc_ (Below.refl _ _) _)) _ 1 1 [_] rfl rfl (World.news_of_block (cs := #[.int .u8 _]) (t := 5) (fr := (0, 0)) (heap_alloc_new w5 _)) (by simp) (Nat.le_trans hb5.out.size (by simp)) ?_))
  intro v6 w6 ho_ hg_
  have hb6 := Lib.hid (hb5.out.trans (((Below.refl _ w5).alloc hb5.out.size _).trans hg_))
  clear hg_
  have ho6 := Lib.hid ho_
  clear ho_
  go_wp2
  rw [rounds_succ]
  go_wp2_with (at_builtin; go_loud (refine byte_list rfl _ _ rfl w.heap.size v6 _ rfl (ho6.out.below (Below.alloc_ (Below.refl _ _) _)) _ 1 1 [_] rfl rfl (World.news_of_block (cs := #[.int .u8 _]) (t := 5) (fr := (0, 0)) (heap_alloc_new w6 _)) (by simp) (Nat.le_trans hb6.out.size (by simp)) ?_))
  intro v7 w7 ho_ hg_
  have hb7 := Lib.hid (hb6.out.trans (((Below.refl _ w6).alloc hb6.out.size _).trans hg_))
  clear hg_
  have ho7 := Lib.hid ho_
  clear ho_
  go_wp2
  rw [rounds_succ]
  go_wp2_with (at_builtin; go_loud (refine byte_list rfl _ _ rfl w.heap.size v7 _ rfl (ho7.out.below (Below.alloc_ (Below.refl _ _) _)) _ 1 1 [_] rfl rfl (World.news_of_block (cs := #[.int .u8 _]) (t := 5) (fr := (0, 0)) (heap_alloc_new w7 _)) (by simp) (Nat.le_trans hb7.out.size (by simp)) ?_))
  intro v8 w8 ho_ hg_
  have hb8 := Lib.hid (hb7.out.trans (((Below.refl _ w7).alloc hb7.out.size _).trans hg_))
  clear hg_
  have ho8 := Lib.hid ho_
  clear ho_
  go_wp2
  rw [rounds_succ]
  go_wp2
  go_ret
  refine ⟨v8, rfl, ?_, hb8.out⟩
  refine cast (congrArg (OwnB w8 w.heap.size v8) ?_) ho8.out
  simp [be32]
  omega
set_option maxRecDepth 100000 in
set_option maxHeartbeats 1600000 in
theorem rbegins_at (p q : Option Addr) (n c m d : Nat) (l r : List Int) (w : World) (hl : l.length = n) (hr : r.length = m) (hm : n ≤ maxLen) (hp : RdB w p l) (hq : RdB w q r) :
    Calls Tryd.prog 35 #[.slice p n c, .slice q m d] w fun e w' => e = .returned (.bool (pfxB l r)) ∧ Below w.heap.size w w' := by
  have HL := Lib.hid hl
  have HR := Lib.hid hr
  have HP := Lib.hid hp
  have HQ := Lib.hid hq
  unfold maxLen at hm
  by_cases hnm : n < m
  · have hf := Lib.hid (pfxB_short (l := l) (r := r) (by omega))
    have hnm' : ((n : Nat) : Int) < (m : Nat) := by omega
    clear hr hl hp hq
    go_enter Tryd.func35, Tryd.ntmps35
    go_wp2
    go_ret
    exact ⟨by rw [hf.out]; rfl, Below.refl _ _⟩
  · have hnm' : ¬ ((n : Nat) : Int) < (m : Nat) := by omega
    clear hr hl hp hq
    go_enter Tryd.func35, Tryd.ntmps35
    go_wp2
    go_loopw [5] (fun i wr => ∃ k : Nat, k ≤ m ∧ i = .int .i64 k ∧ l.take k = r.take k ∧ Below w.heap.size w wr) (fun i _ => m - (intOf i).toNat)
    case atStart => exact ⟨0, Nat.zero_le _, rfl, rfl, Below.refl _ _⟩
    case round =>
      obtain ⟨k, hk, rfl, ht, hB⟩ := hrel
      have hT := Lib.hid ht
      clear ht
      by_cases hlt : k < m
      · obtain ⟨b, o, rfl, hb, hc⟩ := (HP.out.below hB).at (k := k) (by rw [HL.out]; omega)
        obtain ⟨b', o', rfl, hb', hc'⟩ := (HQ.out.below hB).at (k := k) (by rw [HR.out]; exact hlt)
        have hkl : k < l.length := by rw [HL.out]; omega
        have hkr : k < r.length := by rw [HR.out]; exact hlt
        obtain ⟨x, hx⟩ : ∃ x, x = l[k] := ⟨_, rfl⟩
        obtain ⟨y, hy⟩ : ∃ y, y = r[k] := ⟨_, rfl⟩
        rw [← hx] at hc
        rw [← hy] at hc'
        have hk0 : (0 : Int) ≤ (k : Int) := Int.natCast_nonneg _
        have hk1 : (k : Int) < (m : Int) := by omega
        have hk2 : (k : Int) < (n : Int) := by omega
        by_cases he : x = y
        · have hn : Hid (l.take (k + 1) = r.take (k + 1)) := Lib.hid (by
            rw [List.take_succ_eq_append_getElem hkl, List.take_succ_eq_append_getElem hkr, hT.out, ← hx, ← hy, he])
          subst he
          clear hx hy
          go_wp2
          go_quiet (fail)
          go_wp2
          go_roundw
          case rel => exact ⟨k + 1, by omega, by go_num, hn.out, by repeat (first | exact hB | refine Below.drew ?_ | refine below_drewN ?_)⟩
          case measure => simp [intOf]; omega
        · have hf : Hid (pfxB l r = false) := Lib.hid (eqB_false fun h => he (by
            have h2 : (l.take r.length)[k]'(by rw [List.length_take]; omega) = r[k] := by
              have h3 : (l.take r.length)[k]? = r[k]? := by rw [h]
              rw [List.getElem?_eq_getElem (by rw [List.length_take]; omega), List.getElem?_eq_getElem hkr] at h3
              injection h3
            rw [hx, hy, ← h2]; simp))
          have he1 : (x == y) = false := by simpa using he
          have he2 : (x != y) = true := by simpa using he
          clear hx hy
          go_wp2
          go_quiet (fail)
          go_wp2
          go_ret
          exact ⟨by rw [hf.out]; rfl, by repeat (first | exact hB | refine Below.drew ?_ | refine below_drewN ?_)⟩
      · obtain rfl : k = m := by omega
        have ht : Hid (pfxB l r = true) := Lib.hid (eqB_true (by
          have h := hT.out
          rw [List.take_of_length_le (l := r) (by rw [HR.out]; exact Nat.le_refl _)] at h
          rw [HR.out]; exact h))
        go_wp2
        go_ret
        exact ⟨by rw [ht.out]; rfl, hB⟩
end Go.Proofs.YtfapaehjmbekpaaDoor
