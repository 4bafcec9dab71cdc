import Derived.Test.YtfapaehjmbekpaaDoorWGet
namespace Go.Proofs.YtfapaehjmbekpaaDoor
open Go.RowKit
set_option linter.unusedSimpArgs false
set_option linter.unusedVariables false
theorem OwnB.rd {w : World} {B : Nat} {p : Option Addr} {n c : Nat} {l : List Int} (h : OwnB w B (.slice p n c) l) : n = l.length ∧ RdB w p l := by
  obtain ⟨p', c', h1, h2⟩ := h.form
  injection h1 with e1 e2 e3
  subst e1 e2
  exact ⟨rfl, h2⟩
theorem byte_make {w : World} {ops : Array Oper} {rest : List Oper} {o : Oper} {a : Act} {Q : Exit → Act → World → Prop} (hgd : o.guard = none) (lo co : Operand) (ho : o.op = Op.makeSlice 23 lo co) (B n : Nat) (C : Int)
    (hlo : a.eval lo = .int .i64 0) (hc : a.eval co = .int .i64 C) (hC : C = (n : Nat)) (hn : n ≤ 140737488355328) (hB : B ≤ w.heap.size)
    (h : ∀ w', OwnB w' B (.slice (some ⟨w.heap.size, 0, none⟩) 0 n) [] → Below B w w' → w.heap.size < w'.heap.size → wpList Tryd.prog ops Q rest (a.put o.dst (.slice (some ⟨w.heap.size, 0, none⟩) 0 n)) w') :
    wpList Tryd.prog ops Q (o :: rest) a w := by
  obtain ⟨i, hi, hz0, hz1, hz2⟩ := info_parts byteInfo
  refine wpList_make_own w hgd lo co 23 ho B 5 i _ 1 Tryd.underlying23 hi hz0 hz1 .i64 .i64 C n hlo hc hC (by rw [hz2]; omega) (by unfold maxLen; omega) hB ?_
  intro w' h1 h2
  exact h w' h1 ⟨h2.os, h2.tape, h2.output, h2.size, fun k hk => h2.block k (by omega) (by simp)⟩ ((World.ownsRow.lt h1 _ rfl).2)
/-- Within the room: the row stays where it is. -/
theorem byte_fits {w : World} {ops : Array Oper} {rest : List Oper} {o : Oper} {a : Act} {Q : Exit → Act → World → Prop} (hgd : o.guard = none) (s x : Operand)
    (ho : o.op = .call { callee := .builtin .append, args := #[s, x], argTypes := #[23, 23] }) (B g n cap : Nat) (l : List Int) (hl : l.length = n) (hs : a.eval s = .slice (some ⟨g, 0, none⟩) n cap) (hown : OwnB w B (.slice (some ⟨g, 0, none⟩) n cap) l)
    (ad : Addr) (m c : Nat) (news : List Int) (hm : news.length = m) (hx : a.eval x = .slice (some ad) m c) (hnews : ∀ j u, (news.map (Value.int .u8))[j]? = some u → w.cell? (ad.add j) = some u) (hroom : n + m ≤ cap)
    (h : ∀ w', OwnB w' B (.slice (some ⟨g, 0, none⟩) (n + m) cap) (l ++ news) → Below B w w' → wpList Tryd.prog ops Q rest (a.put o.dst (.slice (some ⟨g, 0, none⟩) (n + m) cap)) w') :
    wpList Tryd.prog ops Q (o :: rest) a w := by
  obtain ⟨i, hi, hz0, hz1, hz2⟩ := info_parts byteInfo
  subst hl
  refine wpList_append_fits w hgd s x 23 ho B 5 i 1 Tryd.underlying23 hi hz1 g l.length cap (l.map (Value.int .u8)) hs hown ad m c (news.map (Value.int .u8)) hx (by simpa using hm) hnews (ints_oneCell _ _) hroom ?_
  intro w' h1 h2
  have hg := (World.ownsRow.lt hown g rfl)
  have hl : (l ++ news).length = l.length + m := by simp [hm]
  have hf : (l ++ news).map (Value.int .u8) = l.map (Value.int .u8) ++ news.map (Value.int .u8) := by simp
  exact h w' (by unfold OwnB; rw [hl, hf]; exact h1) ⟨h2.os, h2.tape, h2.output, h2.size, fun k hk => h2.block k (by omega) (fun e => by injection e with e; omega)⟩
theorem OwnB.short {w : World} {B g n cap : Nat} {l r : List Int} (h : OwnB w B (.slice (some ⟨g, 0, none⟩) n cap) (l ++ r)) : OwnB w B (.slice (some ⟨g, 0, none⟩) l.length cap) l := by
  obtain ⟨hl, h | ⟨g', c, cur, hv, hB, hh, hn, hm, hs, ht⟩⟩ := h
  · simp at h
  · refine ⟨by simp, .inr ⟨g', c, cur, ?_, hB, hh, ?_, hm, hs, ?_⟩⟩
    · injection hv with e1 e2 e3
      rw [e1, e3]
    · simp at hn; omega
    · have h1 := congrArg (List.take (l.length * 1)) ht
      rw [List.take_take] at h1
      simp only [Nat.mul_one, List.length_append, List.map_append] at h1 ⊢
      rw [Nat.min_eq_left (by omega)] at h1
      rw [h1, List.take_append_of_le_length (by simp), List.take_of_length_le (by simp)]
set_option maxRecDepth 100000 in
set_option maxHeartbeats 1600000 in
theorem lend_at (p : Option Addr) (n c : Nat) (l : List Int) (w : World) (hl : l.length = n) (hm : n ≤ 1000000000000) (hr : RdB w p l) :
    Calls Tryd.prog 9 #[.slice p n c] w fun e w' => ∃ g cap, e = .returned (.slice (some ⟨g, 0, none⟩) n cap) ∧ n + 3 ≤ cap ∧ OwnB w' w.heap.size (.slice (some ⟨g, 0, none⟩) (n + 3) cap) (l ++ [161, 162, 163]) ∧ Below w.heap.size w w' := by
  have HR := Lib.hid hr
  replace hl := Lib.hid hl
  clear hr
  go_enter Tryd.func9, Tryd.ntmps9
  go_wp2_with (at_make; go_loud (refine byte_make rfl _ _ rfl w.heap.size (n + 3) _ rfl rfl (by simp) (by omega) (Nat.le_refl _) ?_))
  intro w1 ho1 hb1 hz1
  replace ho1 := Lib.hid ho1
  replace hb1 := Lib.hid hb1
  go_wp2
  go_loopw [3, 4] (fun t i wr => ∃ k : Nat, k ≤ n ∧ i = .int .i64 k ∧ t = .slice (some ⟨w.heap.size, 0, none⟩) k (n + 3) ∧ OwnB wr w.heap.size (.slice (some ⟨w.heap.size, 0, none⟩) k (n + 3)) (l.take k) ∧ Below w.heap.size w wr) (fun _ i _ => n - (intOf i).toNat)
  case atStart => exact ⟨0, Nat.zero_le _, rfl, rfl, ho1.out, hb1.out⟩
  case round =>
    obtain ⟨k, hk, rfl, rfl, ho, hB⟩ := hrel
    have hsz := hB.size
    by_cases hlt : k < n
    · obtain ⟨b, o, rfl, hb, hc⟩ := (HR.out.below hB).at (k := k) (by rw [hl.out]; exact hlt)
      have htn := List.take_succ_eq_append_getElem (l := l) (i := k) (by rw [hl.out]; exact hlt)
      obtain ⟨x, hx⟩ : ∃ x, x = l[k]'(by rw [hl.out]; exact hlt) := ⟨_, rfl⟩
      rw [← hx] at hc htn
      have htl : (l.take k).length = k := by rw [List.length_take, hl.out]; omega
      replace htl := Lib.hid htl
      replace htn := Lib.hid htn
      replace ho := Lib.hid ho
      replace hB := Lib.hid hB
      clear hx
      go_wp2_with (at_builtin; go_loud (refine byte_fits rfl _ _ rfl w.heap.size w.heap.size k (n + 3) (l.take k) htl.out rfl (ho.out.below (Below.alloc_ (Below.refl _ _) _)) _ 1 1 [x] rfl rfl (World.news_of_block (cs := #[.int .u8 x]) (t := 5) (fr := (0, 0)) (heap_alloc_new wr _)) (by omega) ?_))
      intro w3 ho3 hg3
      rw [← htn.out] at ho3
      replace ho3 := Lib.hid ho3
      have hB3 := Lib.hid (hB.out.trans (((Below.refl _ wr).alloc hsz _).trans hg3))
      clear hg3
      go_wp2
      go_roundw
      case rel => exact ⟨k + 1, by omega, by go_num, rfl, ho3.out, hB3.out⟩
      case measure => simp [intOf]; omega
    · obtain rfl : k = n := by omega
      rw [List.take_of_length_le (by rw [hl.out]; exact Nat.le_refl _)] at ho
      replace ho := Lib.hid ho
      replace hB := Lib.hid hB
      go_wp2_with (at_builtin; go_loud (refine byte_fits rfl _ _ rfl w.heap.size w.heap.size k (k + 3) l hl.out rfl (ho.out.below (Below.alloc_ (Below.refl _ _) _)) _ 3 3 [161, 162, 163] rfl rfl (World.news_of_block (cs := #[.int .u8 161, .int .u8 162, .int .u8 163]) (t := 5) (fr := (0, 0)) (heap_alloc_new wr _)) (by omega) ?_))
      intro w3 ho3 hg3
      replace ho3 := Lib.hid ho3
      have hB3 := Lib.hid (hB.out.trans (((Below.refl _ wr).alloc hsz _).trans hg3))
      clear hg3
      go_wp2
      go_ret
      exact ⟨w.heap.size, k + 3, by simp, by omega, ho3.out, hB3.out⟩
end Go.Proofs.YtfapaehjmbekpaaDoor
