import Derived.Test.YtfapaehjmbekpaaDoorWEq
namespace Go.Proofs.YtfapaehjmbekpaaDoor
open Go.RowKit
set_option linter.unusedSimpArgs false
set_option linter.unusedVariables false
/-- Four bytes, the high one first. -/
def val32 (l : List Int) : Nat := ((l.getD 0 0).toNat * 16777216 + (l.getD 1 0).toNat * 65536 + (l.getD 2 0).toNat * 256 + (l.getD 3 0).toNat)
theorem or_lanes (a b : Nat) (k : Nat) (hb : b < 2 ^ k) : (a * 2 ^ k) ||| b = a * 2 ^ k + b := by
  rw [Nat.mul_comm]; exact (Nat.two_pow_add_eq_or_of_lt hb a).symm
theorem or_u32' (a b : Nat) (ha : a < 4294967296) (hb : b < 4294967296) : bits .or .u32 (a : Int) (b : Int) = ((a ||| b : Nat) : Int) := by
  have hx : a ||| b < 2 ^ 32 := Nat.or_lt_two_pow (by omega) (by omega)
  have h1 : (BitVec.ofInt 32 (a : Int)).toNat = a := by
    rw [BitVec.ofInt_natCast, BitVec.toNat_ofNat]; exact Nat.mod_eq_of_lt (by omega)
  have h2 : (BitVec.ofInt 32 (b : Int)).toNat = b := by
    rw [BitVec.ofInt_natCast, BitVec.toNat_ofNat]; exact Nat.mod_eq_of_lt (by omega)
  show IntKind.u32.wrap ((BitVec.ofInt 32 (a : Int) ||| BitVec.ofInt 32 (b : Int)).toNat : Int) = _
  rw [BitVec.toNat_or, h1, h2, u32_wrap]
  omega
theorem lanes32 {x0 x1 x2 x3 : Nat} (h0 : x0 < 256) (h1 : x1 < 256) (h2 : x2 < 256) (h3 : x3 < 256) :
    bits .or .u32 (bits .or .u32 (bits .or .u32 ((x0 : Int) * 16777216) ((x1 : Int) * 65536)) ((x2 : Int) * 256)) (x3 : Int) = ((x0 * 16777216 + x1 * 65536 + x2 * 256 + x3 : Nat) : Int) := by
  have e0 : (x0 : Int) * 16777216 = ((x0 * 256 * 2 ^ 16 : Nat) : Int) := by simp; omega
  have e1 : (x1 : Int) * 65536 = ((x1 * 2 ^ 16 : Nat) : Int) := by simp
  have e2 : (x2 : Int) * 256 = ((x2 * 2 ^ 8 : Nat) : Int) := by simp
  have g1 : x0 * 256 * 2 ^ 16 ||| x1 * 2 ^ 16 = (x0 * 256 + x1) * 2 ^ 16 := by
    have a1 : x0 * 256 * 2 ^ 16 = (x0 * 2 ^ 8) <<< 16 := by rw [Nat.shiftLeft_eq]
    have a2 : x1 * 2 ^ 16 = x1 <<< 16 := by rw [Nat.shiftLeft_eq]
    rw [a1, a2, ← Nat.shiftLeft_or_distrib, or_lanes x0 x1 8 (by omega), Nat.shiftLeft_eq]
  have g2 : (x0 * 256 + x1) * 2 ^ 16 ||| x2 * 2 ^ 8 = (x0 * 256 + x1) * 2 ^ 16 + x2 * 2 ^ 8 := or_lanes _ _ 16 (by omega)
  have g3 : (x0 * 256 + x1) * 2 ^ 16 + x2 * 2 ^ 8 ||| x3 = (x0 * 256 + x1) * 2 ^ 16 + x2 * 2 ^ 8 + x3 := by
    have a1 : (x0 * 256 + x1) * 2 ^ 16 + x2 * 2 ^ 8 = ((x0 * 256 + x1) * 2 ^ 8 + x2) * 2 ^ 8 := by omega
    rw [a1]; exact or_lanes _ _ 8 (by omega)
  rw [e0, e1, e2, or_u32' _ _ (by omega) (by omega), g1, or_u32' _ _ (by omega) (by omega), g2, or_u32' _ _ (by omega) (by omega), g3]
  exact congrArg (fun n : Nat => (n : Int)) (show (x0 * 256 + x1) * 65536 + x2 * 256 + x3 = x0 * 16777216 + x1 * 65536 + x2 * 256 + x3 by omega)
set_option maxRecDepth 100000 in
set_option maxHeartbeats 1600000 in
theorem get32_at (b o n c : Nat) (x0 x1 x2 x3 : Nat) (w : World) (hn : 4 ≤ n) (hm : n ≤ maxLen) (h0 : x0 < 256) (h1 : x1 < 256) (h2 : x2 < 256) (h3 : x3 < 256) 
    (c0 : w.cell? ⟨b, o, none⟩ = some (.int .u8 x0)) (c1 : w.cell? ⟨b, o + 1, none⟩ = some (.int .u8 x1)) (c2 : w.cell? ⟨b, o + 2, none⟩ = some (.int .u8 x2)) (c3 : w.cell? ⟨b, o + 3, none⟩ = some (.int .u8 x3)) :
    Calls Tryd.prog 31 #[.slice (some ⟨b, o, none⟩) n c] w fun e w' => e = .returned (.int .u32 (x0 * 16777216 + x1 * 65536 + x2 * 256 + x3 : Nat)) ∧ Below w.heap.size w w' := by
  unfold maxLen at hm
  have i0 : (0 : Int) < (n : Int) := by omega
  have i1 : (1 : Int) < (n : Int) := by omega
  have i2 : (2 : Int) < (n : Int) := by omega
  have i3 : (3 : Int) < (n : Int) := by omega
  go_enter Tryd.func31, Tryd.ntmps31
  go_wp2
  go_quiet (fail)
  go_wp2
  go_ret
  refine ⟨?_, by repeat (first | exact Below.refl _ _ | refine Below.drew ?_ | refine below_drewN ?_)⟩
  show Ending.returned (.int .u32 (bits .or .u32 (bits .or .u32 (bits .or .u32 ((x0 : Int) * 16777216) ((x1 : Int) * 65536)) ((x2 : Int) * 256)) (x3 : Int))) = _
  rw [lanes32 h0 h1 h2 h3]
theorem get32_rd (p : Option Addr) (n c : Nat) (l : List Int) (w : World) (hl : l.length = n) (hn : 4 ≤ n) (hm : n ≤ maxLen) (hr : RdB w p l) (hB : Byt l) :
    Calls Tryd.prog 31 #[.slice p n c] w fun e w' => e = .returned (.int .u32 (val32 l : Nat)) ∧ Below w.heap.size w w' := by
  obtain ⟨b, o, rfl, hb, q0⟩ := hr.at (k := 0) (by omega)
  obtain ⟨b', o', e1, _, q1⟩ := hr.at (k := 1) (by omega)
  obtain ⟨rfl, rfl⟩ : b = b' ∧ o = o' := by injection e1 with e1; injection e1 with e1 e2; exact ⟨e1, e2⟩
  obtain ⟨b', o', e1, _, q2⟩ := hr.at (k := 2) (by omega)
  obtain ⟨rfl, rfl⟩ : b = b' ∧ o = o' := by injection e1 with e1; injection e1 with e1 e2; exact ⟨e1, e2⟩
  obtain ⟨b', o', e1, _, q3⟩ := hr.at (k := 3) (by omega)
  obtain ⟨rfl, rfl⟩ : b = b' ∧ o = o' := by injection e1 with e1; injection e1 with e1 e2; exact ⟨e1, e2⟩
  have hx : ∀ k (hk : k < l.length), l[k] = (((l.getD k 0).toNat : Nat) : Int) ∧ (l.getD k 0).toNat < 256 := fun k hk => by
    have h1 := hB k hk
    rw [List.getD_eq_getElem?_getD, List.getElem?_eq_getElem hk, Option.getD_some]
    omega
  have z0 := hx 0 (by omega)
  have z1 := hx 1 (by omega)
  have z2 := hx 2 (by omega)
  have z3 := hx 3 (by omega)
  rw [z0.1] at q0
  rw [z1.1] at q1
  rw [z2.1] at q2
  rw [z3.1] at q3
  exact get32_at b o n c _ _ _ _ w hn hm z0.2 z1.2 z2.2 z3.2 q0 q1 q2 q3
/-- Bytes in memory of the call's own. -/
def OwnB (w : World) (B : Nat) (v : Value) (l : List Int) : Prop := w.ownsRow B 5 1 v l.length (l.map (Value.int .u8))
theorem byteInfo : (Tryd.prog.info? 5).map (fun i => (i.zero, i.size, i.bytes)) = some (some (.int .u8 0), 1, 1) := by kernel_rfl
theorem OwnB.below {w w' : World} {B : Nat} {v : Value} {l : List Int} (h : OwnB w B v l) (hb : Below w.heap.size w w') : OwnB w' B v l := by
  obtain ⟨hl, h | ⟨g', c, cur, hv, hB, hh, hn, hm, hs, ht⟩⟩ := h
  · exact ⟨hl, .inl h⟩
  · refine ⟨hl, .inr ⟨g', c, cur, hv, hB, (hb.block g' ?_).trans hh, hn, hm, hs, ht⟩⟩
    by_cases hlt : g' < w.heap.size
    · exact hlt
    · rw [Array.getElem?_eq_none (by omega)] at hh; simp at hh
theorem OwnB.mono {w : World} {B B' : Nat} {v : Value} {l : List Int} (h : OwnB w B' v l) (hb : B ≤ B') : OwnB w B v l :=
  ⟨h.1, h.2.imp id (fun ⟨g, c, cur, h1, h2, h3⟩ => ⟨g, c, cur, h1, Nat.le_trans hb h2, h3⟩)⟩
theorem OwnB.form {w : World} {B : Nat} {v : Value} {l : List Int} (h : OwnB w B v l) : ∃ p c, v = .slice p l.length c ∧ RdB w p l := by
  rcases h.2 with ⟨rfl, h0⟩ | ⟨g, cap, cur, rfl, hb, hh, hc, hm, hs, ht⟩
  · exact ⟨none, 0, by rw [h0], fun j hj => by omega⟩
  · refine ⟨some ⟨g, 0, none⟩, cap, rfl, fun j hj => ⟨g, 0, rfl, ?_, ?_⟩⟩
    · by_cases hlt : g < w.heap.size
      · exact hlt
      · rw [Array.getElem?_eq_none (by omega)] at hh; simp at hh
    · rw [Nat.zero_add, World.ownsRow.cellAt h j (by omega)]
      simp [hj]
theorem ownB_nil (w : World) (B : Nat) : OwnB w B (.slice none 0 0) [] := World.ownsRow_nil _ _ _ _
theorem byte_list {w : World} {ops : Array Oper} {rest : List Oper} {o : Oper} {a : Act} {Q : Exit → Act → World → Prop} (hgd : o.guard = none) (s x : Operand)
    (ho : o.op = .call { callee := .builtin .append, args := #[s, x], argTypes := #[23, 23] }) (B : Nat) (v : Value) (l : List Int) (hs : a.eval s = v) (hown : OwnB w B v l)
    (ad : Addr) (m c : Nat) (news : List Int) (hm : news.length = m) (hx : a.eval x = .slice (some ad) m c) (hnews : ∀ j u, (news.map (Value.int .u8))[j]? = some u → w.cell? (ad.add j) = some u) (hlen : l.length + m ≤ 140737488355328) (hB : B ≤ w.heap.size)
    (h : ∀ v' w', OwnB w' B v' (l ++ news) → Below B w w' → wpList Tryd.prog ops Q rest (a.put o.dst v') w') :
    wpList Tryd.prog ops Q (o :: rest) a w := by
  obtain ⟨i, hi, hz0, hz1, hz2⟩ := info_parts byteInfo
  refine wpList_append_own_at w hgd s x 23 ho B 5 i _ 1 1 Tryd.underlying23 hi hz0 hz1 hz2 rfl (by omega) _ l.length (l.map (Value.int .u8)) hs hown ad m c (news.map (Value.int .u8)) hx (by simpa using hm) hnews (ints_oneCell _ _) (by unfold maxLen; omega) (by omega) hB ?_
  intro v' w' h2 h3 h4 h5
  have hl : (l ++ news).length = l.length + m := by simp [hm]
  have hf : (l ++ news).map (Value.int .u8) = l.map (Value.int .u8) ++ news.map (Value.int .u8) := by simp
  exact h v' w' (by unfold OwnB; rw [hl, hf]; exact h2) ⟨h3.os, h3.tape, h3.output, h3.size, fun k hk => h3.block k (by omega) (fun e => by have := (hown.lt k e.symm).1; omega)⟩
def be32 (x : Nat) : List Int := [(x : Int) / 16777216, (x : Int) / 65536 % 256, (x : Int) / 256 % 256, (x : Int) % 256]
def le32 (x : Nat) : List Int := [(x : Int) % 256, (x : Int) / 256 % 256, (x : Int) / 65536 % 256, (x : Int) / 16777216]
set_option maxRecDepth 100000 in
set_option maxHeartbeats 1600000 in
theorem big32_at (B : Nat) (v : Value) (l : List Int) (x : Nat) (w : World) (hx : x < 4294967296) (ho : OwnB w B v l) (hB : B ≤ w.heap.size) (hl : l.length ≤ 1000000000000) :
    Calls Tryd.prog 20 #[v, .int .u32 x] w fun e w' => ∃ v', e = .returned v' ∧ OwnB w' B v' (l ++ be32 x) ∧ Below B w w' := by
    replace ho := Lib.hid ho
    go_enter Tryd.func20, Tryd.ntmps20
    go_wp2_with (at_builtin; go_loud (refine byte_list rfl _ _ rfl B v l rfl (ho.out.below (Below.alloc_ (Below.refl _ _) _)) _ _ _ (be32 x) rfl rfl (World.news_of_block (cs := ((be32 x).map (Value.int .u8)).toArray) (t := 5) (fr := (0, 0)) (heap_alloc_new w _)) (by simp [be32]; omega) (by simp; omega) ?_))
    intro v' w3 ho3 hg3
    replace ho3 := Lib.hid ho3
    replace hg3 := Lib.hid hg3
    go_wp2
    go_ret
    exact ⟨v', rfl, ho3.out, ((Below.refl _ w).alloc hB _).trans hg3.out⟩
set_option maxRecDepth 100000 in
set_option maxHeartbeats 1600000 in
theorem little32_at (B : Nat) (v : Value) (l : List Int) (x : Nat) (w : World) (hx : x < 4294967296) (ho : OwnB w B v l) (hB : B ≤ w.heap.size) (hl : l.length ≤ 1000000000000) :
    Calls Tryd.prog 21 #[v, .int .u32 x] w fun e w' => ∃ v', e = .returned v' ∧ OwnB w' B v' (l ++ le32 x) ∧ Below B w w' := by
    replace ho := Lib.hid ho
    go_enter Tryd.func21, Tryd.ntmps21
    go_wp2_with (at_builtin; go_loud (refine byte_list rfl _ _ rfl B v l rfl (ho.out.below (Below.alloc_ (Below.refl _ _) _)) _ _ _ (le32 x) rfl rfl (World.news_of_block (cs := ((le32 x).map (Value.int .u8)).toArray) (t := 5) (fr := (0, 0)) (heap_alloc_new w _)) (by simp [le32]; omega) (by simp; omega) ?_))
    intro v' w3 ho3 hg3
    replace ho3 := Lib.hid ho3
    replace hg3 := Lib.hid hg3
    go_wp2
    go_ret
    exact ⟨v', rfl, ho3.out, ((Below.refl _ w).alloc hB _).trans hg3.out⟩
end Go.Proofs.YtfapaehjmbekpaaDoor
