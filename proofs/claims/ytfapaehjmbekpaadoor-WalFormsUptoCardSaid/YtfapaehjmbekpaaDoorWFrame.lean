import Derived.Test.YtfapaehjmbekpaaDoorWHead
import Derived.Laws.AppendOwnNone
namespace Go.Proofs.YtfapaehjmbekpaaDoor
open Go.RowKit
set_option linter.unusedSimpArgs false
set_option linter.unusedVariables false
theorem byte_any {w : World} {ops : Array Oper} {rest : List Oper} {o : Oper} {a : Act} {Q : Exit → Act → World → Prop} (hgd : o.guard = none) (s x : Operand)
    (ho : o.op = .call { callee := .builtin .append, args := #[s, x], argTypes := #[23, 23] }) (B : Nat) (v : Value) (l0 : List Int) (hs : a.eval s = v) (hown : OwnB w B v l0)
    (p : Option Addr) (n c : Nat) (l : List Int) (hl : l.length = n) (hx : a.eval x = .slice p n c) (hr : RdB w p l) (hz : p = none → c = 0) (hlen : l0.length + n ≤ 140737488355328) (hB : B ≤ w.heap.size)
    (h : ∀ v' w', OwnB w' B v' (l0 ++ l) → Below B w w' → wpList Tryd.prog ops Q rest (a.put o.dst v') w') :
    wpList Tryd.prog ops Q (o :: rest) a w := by
  rcases p with _ | ad
  · obtain rfl : c = 0 := hz rfl
    have h0 : l = [] := by
      cases l with
      | nil => rfl
      | cons y r => obtain ⟨b, o, h1, _⟩ := hr 0 (by simp); simp at h1
    subst h0
    obtain rfl : n = 0 := by simpa using hl.symm
    obtain ⟨i, hi, hz0, hz1, hz2⟩ := info_parts byteInfo
    exact wpList_append_own_none hgd s x 23 ho B 5 i 1 Tryd.underlying23 hi v l0.length _ hs hown hx (h v w (by simpa using hown) (Below.refl _ _))
  · refine byte_list hgd s x ho B v l0 hs hown ad n c l hl hx ?_ hlen hB h
    intro j u hj
    have hj' : j < l.length := by
      have := (List.getElem?_eq_some_iff.1 hj).1
      simpa using this
    obtain ⟨b', o', e1, e2, e3⟩ := hr j hj'
    injection e1 with e1
    subst e1
    rw [Addr.add_lit, e3]
    simp [List.getElem?_map, hj'] at hj
    rw [← hj]
set_option maxRecDepth 100000 in
set_option maxHeartbeats 1600000 in
theorem frame_ok (i : Nat) (p : Option Addr) (n c : Nat) (l : List Int) (w : World) (hi : i ≤ 2147483647) (hl : l.length = n) (hn : n ≤ 60000) (hz : p = none → c = 0) (hr : RdB w p l) (hY : Byt l) (hT : Nib w) :
    Calls Tryd.prog 10 #[.int .i64 i, .slice p n c] w fun e w' => ∃ v', e = .returned (.tuple #[v', .nilIface]) ∧ OwnB w' w.heap.size v' (frm i l) ∧ Below w.heap.size w w' := by
  have h1 : ¬ ((i : Nat) : Int) < 0 := by omega
  have h2 : ¬ (2147483647 : Int) < (i : Nat) := by omega
  have h2' : ((i : Nat) : Int) ≤ 2147483647 := by omega
  have h3 : ¬ (60000 : Int) < (n : Nat) := by omega
  have h3' : ((n : Nat) : Int) ≤ 60000 := by omega
  have HT := Lib.hid hT
  have HR := Lib.hid hr
  have HZ := Lib.hid hz
  have HP : Hid (frmP i l = [] ++ be32 n ++ be32 i) := Lib.hid (by rw [← hl]; rfl)
  have HH : Hid (frm i l = frmP i l ++ (le32 (crc (frmP i l)) ++ l) ++ le32 (crc l)) := Lib.hid (by simp [frm, List.append_assoc])
  have HF := Lib.hid (frmP_byt (i := i) (body := l) (by omega) (by omega))
  have HY := Lib.hid hY
  replace hl := Lib.hid hl
  clear hT hr hz hY
  go_enter Tryd.func10, Tryd.ntmps10
  go_wp2_with (at_make; go_loud (refine byte_make rfl _ _ rfl w.heap.size (n + 16) _ rfl rfl (by simp) (by omega) (Nat.le_refl _) ?_))
  intro w0 ho0 hw0 hz0
  replace ho0 := Lib.hid ho0
  replace hw0 := Lib.hid hw0
  go_wp2_with fail
  refine (big32_is w.heap.size _ _ _ n _ (by simp) (by omega) ho0.out hw0.out.size (by simp)).mono ?_
  rintro e w1 ⟨v1, rfl, ho1, hb1⟩
  have hw1 := Lib.hid (hw0.out.trans hb1)
  replace ho1 := Lib.hid ho1
  clear hb1
  go_wp2_with fail
  refine (big32_is w.heap.size _ _ _ i _ (by simp) (by omega) ho1.out hw1.out.size (by simp [be32])).mono ?_
  rintro e w2 ⟨v2, rfl, ho2, hb2'⟩
  have hw2 := Lib.hid (hw1.out.trans hb2')
  rw [← HP.out] at ho2
  replace ho2 := Lib.hid ho2
  clear hb2'
  go_wp2_with fail
  refine (sum_own _ _ _ _ ho2.out (by rw [frmP_len]; unfold maxLen; omega) HF.out (HT.out.below (Nat.le_refl _) hw2.out)).mono ?_
  rintro e w3 ⟨rfl, rfl⟩
  go_wp2_with fail
  refine (little32_at w.heap.size _ _ _ _ (crc_lt _) ho2.out hw2.out.size (by rw [frmP_len]; omega)).mono ?_
  rintro e w3 ⟨v3, rfl, ho3, hb3⟩
  have hw3 := Lib.hid (hw2.out.trans hb3)
  replace ho3 := Lib.hid ho3
  clear hb3
  go_wp2_with (at_builtin; go_loud (refine byte_any rfl _ _ rfl w.heap.size v3 _ rfl ho3.out p n c l hl.out rfl (HR.out.below hw3.out) HZ.out (by simp [frmP_len, le32]; omega) hw3.out.size ?_))
  intro v4 w4 ho4 hb4
  have hw4 := Lib.hid (hw3.out.trans hb4)
  replace ho4 := Lib.hid ho4
  clear hb4
  go_wp2_with fail
  refine (sum_at p n c l _ hl.out (by unfold maxLen; omega) (HR.out.below hw4.out) HY.out (HT.out.below (Nat.le_refl _) hw4.out)).mono ?_
  rintro e w5 ⟨rfl, rfl⟩
  go_wp2_with fail
  refine (little32_at w.heap.size _ _ _ _ (crc_lt _) ho4.out hw4.out.size (by simp [frmP_len, le32, hl.out]; omega)).mono ?_
  rintro e w5 ⟨v5, rfl, ho5, hb5⟩
  have hw5 := Lib.hid (hw4.out.trans hb5)
  rw [← HH.out] at ho5
  replace ho5 := Lib.hid ho5
  clear hb5
  go_wp2
  go_ret2
  exact ⟨v5, rfl, ho5.out, hw5.out⟩
end Go.Proofs.YtfapaehjmbekpaaDoor
