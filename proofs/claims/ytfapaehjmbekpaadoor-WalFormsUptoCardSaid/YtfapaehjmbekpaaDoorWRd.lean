import Derived.Test.YtfapaehjmbekpaaDoorWScanOk
import Derived.Test.YtfapaehjmbekpaaDoorWReadPure
import Derived.Test.YtfapaehjmbekpaaDoorOpen
namespace Go.Proofs.YtfapaehjmbekpaaDoor
open Go.RowKit
set_option linter.unusedSimpArgs false
set_option linter.unusedVariables false
theorem scan_at (file : Nat) (p : Option Addr) (n c : Nat) (data : List Int) (w : World) (hl : data.length = n) (hm : n ≤ 10000000000) (hnc : n ≤ c) (hr : RdB w p data) (hY : Byt data) (hf : file < 18446744073709551616) (hT : Nib w) : Calls Tryd.prog 13 #[.int .u64 file, .slice p n c] w (ScanPost file data w) := by
  by_cases h21 : n < 21
  · exact scan_short file p n c data w hl h21
  · by_cases h64 : 64 < val32 (data.drop 13)
    · exact scan_big file p n c data w hl (by omega) hm hnc hr hY h64
    · by_cases hfi : file = 0 ∨ 4611686018427387904 < file
      · exact scan_file file p n c data w hl (by omega) hm hnc hr hY (by omega) hfi hf
      · cases hp : pfxB data (hdr file (val32 (data.drop 13))) with
        | false => exact scan_head file p n c data w hl (by omega) hm hnc hr hY (by omega) (by omega) (by omega) hT hp
        | true => exact scan_ok file p n c data w hl (by omega) hm hnc hr hY (by omega) (by omega) (by omega) hT hp
theorem sizeL_take_le : ∀ (ls : List (List Int)) (k : Nat), sizeL (ls.take k) ≤ sizeL ls
  | [], k => by simp
  | x :: r, 0 => by simp [sizeL]
  | x :: r, k + 1 => by
    have := sizeL_take_le r k
    simp only [List.take_succ_cons, sizeL, List.map_cons, List.sum_cons] at this ⊢
    omega
/-- Lists of bytes, read. -/
def RdRows (w : World) (p : Option Addr) (ls : List (List Int)) : Prop := ∀ i (h : i < ls.length), ∃ b o q c, p = some ⟨b, o, none⟩ ∧ b < w.heap.size ∧ w.cell? ⟨b, o + i, none⟩ = some (.slice q (ls[i]).length c) ∧ (ls[i]).length ≤ c ∧ (q = none → c = 0) ∧ RdB w q (ls[i])
theorem RdRows.below {w w' : World} {p : Option Addr} {ls : List (List Int)} (h : RdRows w p ls) (hb : Below w.heap.size w w') : RdRows w' p ls := fun i hi => by
  obtain ⟨b, o, q, c, h1, h2, h3, h4, h5, h6⟩ := h i hi
  exact ⟨b, o, q, c, h1, Nat.lt_of_lt_of_le h2 hb.size, (hb.cell (p := ⟨b, o + i, none⟩) h2).trans h3, h4, h5, h6.below hb⟩
theorem RdRows.take {w : World} {p : Option Addr} {ls : List (List Int)} (k : Nat) (h : RdRows w p ls) : RdRows w p (ls.take k) := fun i hi => by
  obtain ⟨b, o, q, c, h1, h2, h3, h4, h5, h6⟩ := h i (by simp at hi; omega)
  have e : (ls.take k)[i] = ls[i]'(by simp at hi; omega) := by simp
  rw [e]
  exact ⟨b, o, q, c, h1, h2, h3, h4, h5, h6⟩
theorem OwnB.form2 {w : World} {B : Nat} {v : Value} {l : List Int} (h : OwnB w B v l) : ∃ p c, v = .slice p l.length c ∧ RdB w p l ∧ l.length ≤ c ∧ (p = none → c = 0) := by
  rcases h.2 with ⟨rfl, h0⟩ | ⟨g, cap, cur, rfl, hb, hh, hc, hm, hs, ht⟩
  · exact ⟨none, 0, by rw [h0], fun j hj => by omega, by omega, fun _ => rfl⟩
  · exact ⟨some ⟨g, 0, none⟩, cap, rfl, (OwnB.rd h).2, hc, fun h => by cases h⟩
theorem RowsX.rd {w : World} {B : Nat} {p : Option Addr} {n c : Nat} {ls : List (List Int)} {xs : List Value} (h : RowsX w B (.slice p n c) ls xs) : n = ls.length ∧ RdRows w p ls := by
  obtain ⟨p', c', h1⟩ := h.form
  injection h1 with e1 e2 e3
  refine ⟨e2, fun i hi => ?_⟩
  obtain ⟨g, rfl, hg, hc⟩ := h.cell i hi
  obtain ⟨q, d, hv, hq, hd, hz⟩ := (h.own i hi).form2
  refine ⟨g, 0, q, d, rfl, hg, ?_, hd, hz, hq⟩
  rw [Nat.zero_add, hc, hv]
set_option maxRecDepth 100000 in
set_option maxHeartbeats 1600000 in
theorem sameall_at (p q : Option Addr) (n c d : Nat) (ls : List (List Int)) (w : World) (hl : ls.length = n) (hm : n ≤ maxLen) (hs : ∀ i (h : i < ls.length), (ls[i]).length ≤ maxLen) (hp : RdRows w p ls) (hq : RdRows w q ls) :
    Calls Tryd.prog 15 #[.slice p n c, .slice q n d] w fun e w' => e = .returned (.bool true) ∧ Below w.heap.size w w' := by
  have HL := Lib.hid hl
  have HP := Lib.hid hp
  have HQ := Lib.hid hq
  have HS := Lib.hid hs
  unfold maxLen at hm
  clear hl hp hq hs
  go_enter Tryd.func15, Tryd.ntmps15
  go_wp2
  go_loopw [5] (fun i wr => ∃ k : Nat, k ≤ n ∧ i = .int .i64 k ∧ Below w.heap.size w wr) (fun i _ => n - (intOf i).toNat)
  case atStart => exact ⟨0, Nat.zero_le _, rfl, Below.refl _ _⟩
  case round =>
    obtain ⟨k, hk, rfl, hB⟩ := hrel
    by_cases hlt : k < n
    · obtain ⟨b, o, x, cx, rfl, hb, hc, _, _, hx⟩ := (HP.out.below hB) k (by rw [HL.out]; exact hlt)
      obtain ⟨b', o', y, cy, rfl, hb', hc', _, _, hy⟩ := (HQ.out.below hB) k (by rw [HL.out]; exact hlt)
      have hlen := HS.out k (by rw [HL.out]; exact hlt)
      generalize ls[k]'(by rw [HL.out]; exact hlt) = l at *
      have E : ∀ w1, Below wr.heap.size wr w1 → Calls Tryd.prog 8 #[.slice x l.length cx, .slice y l.length cy] w1 fun e w' => e = .returned (.bool true) ∧ Below w1.heap.size w1 w' := fun w1 hb1 => by
        have := wsame_at x y l.length cx l.length cy l l w1 rfl rfl hlen (hx.below hb1) (hy.below hb1)
        rwa [eqB_true rfl] at this
      have E := Lib.hid E
      have hk0 : (0 : Int) ≤ (k : Int) := Int.natCast_nonneg _
      have hk1 : (k : Int) < (n : Int) := by omega
      replace hB := Lib.hid hB
      clear hx hy hlen
      go_wp2
      refine wp_region_below (by kernel_rfl) (by kernel_rfl) ?_
      repeat first | go_big_quiet_skip | (go_big_quiet_want; go_big_quiet_op; go_big_quiet_on) | (go_big_quiet_want; rename_i K hK; apply quiet_mk; (focus (intro w1 hw1; have hc1 := (bcell hw1).1; have hf1 := (bcell hw1).2; go_simp; first | done | rfl | (first | (go_at_call 8; (refine (E.out _ hw1).mono ?_); rintro e w2 ⟨rfl, hb2⟩; exact ⟨rfl, (hw1.trans (hb2.mono hw1.size)).mono (by simp)⟩)))); refine hK _ ?_; clear hK K; try simp only [Act.put, List.setIfInBounds_toArray, List.set_cons_zero, List.set_cons_succ])
      refine wpQuiet_nil ?_
      intro wa hb_wa
      have hc_wa := (bcell hb_wa).1
      have hf_wa := (bcell hb_wa).2
      go_wp2
      go_roundw
      case rel => exact ⟨k + 1, by omega, by go_num, Below.on hB.out hb_wa⟩
      case measure => simp [intOf]; omega
    · go_wp2
      go_ret
      exact ⟨rfl, hB⟩
set_option maxRecDepth 100000 in
set_option maxHeartbeats 1600000 in
theorem laid_at (file base : Nat) (p : Option Addr) (n c : Nat) (ls : List (List Int)) (w : World) (h0 : file ≠ 0) (hf : file ≤ 4611686018427387904) (hb : base ≤ 64) (hl : ls.length = n) (hs : ∀ b ∈ ls, b.length ≤ 60000) (hY : ∀ b ∈ ls, Byt b) (hz : sizeL ls ≤ 268435456) (hn : n ≤ 16777216) (hr : RdRows w p ls) (hT : Nib w) :
    Calls Tryd.prog 18 #[.int .u64 file, .int .i64 base, .slice p n c] w fun e w' => ∃ v', e = .returned v' ∧ OwnB w' w.heap.size v' (seg file base ls) ∧ Below w.heap.size w w' := by
  have HL := Lib.hid hl
  have HR := Lib.hid hr
  have HS := Lib.hid hs
  have HY := Lib.hid hY
  have HT := Lib.hid hT
  have H0 := Lib.hid h0
  clear hl hr hs hY hT h0
  go_enter Tryd.func18, Tryd.ntmps18
  go_wp2_with fail
  refine (header_ok file base _ H0.out hf hb HT.out).mono ?_
  rintro e w1 ⟨v1, rfl, ho1, hb1⟩
  replace ho1 := Lib.hid ho1
  replace hb1 := Lib.hid hb1
  go_wp2
  go_loopw [7, 9] (fun t i wr => ∃ k : Nat, k ≤ n ∧ i = .int .i64 k ∧ OwnB wr w.heap.size t (hdr file base ++ framesL 0 (ls.take k)) ∧ Below w.heap.size w wr) (fun _ i _ => n - (intOf i).toNat)
  case atStart => exact ⟨0, Nat.zero_le _, rfl, by simpa [framesL] using ho1.out, hb1.out⟩
  case round =>
    obtain ⟨k, hk, rfl, ho, hB⟩ := hrel
    have hsz := hB.size
    by_cases hlt : k < n
    · obtain ⟨b, o, x, cx, rfl, hbl, hc, hcx, hxz, hx⟩ := (HR.out.below hB) k (by rw [HL.out]; exact hlt)
      have hmem : ls[k]'(by rw [HL.out]; exact hlt) ∈ ls := List.getElem_mem _
      have hlen := HS.out _ hmem
      have hbyt := Lib.hid (HY.out _ hmem)
      have hnext : Hid (framesL 0 (ls.take (k + 1)) = framesL 0 (ls.take k) ++ frm k (ls[k]'(by rw [HL.out]; exact hlt))) := Lib.hid (by
        rw [List.take_succ_eq_append_getElem (by rw [HL.out]; exact hlt), framesL_append]
        congr 1
        rw [List.length_take, Nat.min_eq_left (by rw [HL.out]; omega)]
        simp [framesL])
      have hsl : (hdr file base ++ framesL 0 (ls.take k)).length ≤ 300000000 := by
        rw [List.length_append, hdr_len, framesL_len]
        have := sizeL_take_le ls k
        omega
      generalize ls[k]'(by rw [HL.out]; exact hlt) = l at *
      obtain ⟨m, hm⟩ : ∃ m, l.length = m := ⟨_, rfl⟩
      obtain ⟨pv, cv, rfl, hpv, hcv, hpz⟩ := ho.form2
      generalize hF : hdr file base ++ framesL 0 (ls.take k) = fl at *
      replace hF := Lib.hid hF
      rw [hm] at hc hlen
      have hk0 : (0 : Int) ≤ (k : Int) := Int.natCast_nonneg _
      have hk1 : (k : Int) < (n : Int) := by omega
      replace hm := Lib.hid hm
      replace hx := Lib.hid hx
      replace ho := Lib.hid ho
      replace hB := Lib.hid hB
      replace hpv := Lib.hid hpv
      clear hmem
      go_wp2_with fail
      refine (lend_at x m cx l _ hm.out (by omega) hx.out).mono ?_
      rintro e w2 ⟨g2, cap2, rfl, hcap2, ho2, hb2⟩
      have hr2 := Lib.hid ((OwnB.rd ho2).2.left)
      have hw2 := Lib.hid (Below.on hB.out hb2)
      replace hb2 := Lib.hid hb2
      clear ho2
      go_wp2_with fail
      refine (frame_ok k (some ⟨g2, 0, none⟩) m cap2 l _ (by omega) hm.out hlen (by simp) hr2.out hbyt.out (HT.out.below (Nat.le_refl _) hw2.out)).mono ?_
      rintro e w3 ⟨v3, rfl, ho3, hb3⟩
      obtain ⟨q3, d3, rfl, hq3, hd3, hz3⟩ := ho3.form2
      have hw3 := Lib.hid (Below.on hw2.out hb3)
      have hfl : (frm k l).length = m + 16 := by rw [frm_len, hm.out]
      rw [hfl]
      have c3 : w3.cell? ⟨b, o + k, none⟩ = some (.slice x m cx) := (hb3.cell (p := ⟨b, o + k, none⟩) (Nat.lt_of_lt_of_le hbl hb2.out.size)).trans ((hb2.out.cell (p := ⟨b, o + k, none⟩) hbl).trans hc)
      replace hq3 := Lib.hid hq3
      replace hz3 := Lib.hid hz3
      replace hb3 := Lib.hid hb3
      have hr3 := Lib.hid (hpv.out.below (hb2.out.trans (hb3.out.mono hb2.out.size)))
      clear ho3 hc
      go_wp2_with fail
      refine (lend_at pv fl.length cv fl _ rfl (by omega) hr3.out).mono ?_
      rintro e w4 ⟨g4, cap4, rfl, hcap4, ho4, hb4⟩
      have hw4 := Lib.hid (Below.on hw3.out hb4)
      have ho4' := Lib.hid ((OwnB.short ho4).mono hw3.out.size)
      have hq4 := Lib.hid (hq3.out.below hb4)
      clear ho4 hb4
      go_wp2_with (at_builtin; go_loud (refine byte_any rfl _ _ rfl w.heap.size _ fl rfl ho4'.out q3 (m + 16) d3 (frm k l) hfl rfl hq4.out hz3.out (by omega) hw4.out.size ?_))
      intro v5 w5 ho5 hb5
      replace ho5 := Lib.hid ho5
      have hw5 := Lib.hid (hw4.out.trans hb5)
      clear hb5
      go_wp2
      go_roundw
      case rel => exact ⟨k + 1, by omega, by go_num, by rw [hnext.out, ← List.append_assoc, hF.out]; exact ho5.out, hw5.out⟩
      case measure => simp [intOf]; omega
    · obtain rfl : k = n := by omega
      rw [List.take_of_length_le (by rw [HL.out]; exact Nat.le_refl _)] at ho
      replace ho := Lib.hid ho
      go_wp2
      go_ret
      exact ⟨_, rfl, ho.out, hB⟩
end Go.Proofs.YtfapaehjmbekpaaDoor
