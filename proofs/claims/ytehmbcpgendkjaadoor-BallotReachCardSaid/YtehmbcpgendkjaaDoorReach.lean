import Derived.Test.YtehmbcpgendkjaaDoorMarkAt
import Derived.Test.YtehmbcpgendkjaaDoorMade
import Derived.Test.YtehmbcpgendkjaaDoorReachPure
namespace Go.Proofs.YtehmbcpgendkjaaDoor
open Go.RowKit
set_option linter.unusedSimpArgs false
set_option linter.unusedVariables false
/-- A slice of numbers, opened. -/
theorem nums_open {w : World} {v : Value} (h : (Sh.slice (.int .u64)).Holds w [v]) : (∃ p cap, v = .slice p 0 cap) ∨ ∃ (b o : Nat) (zs : List Int) (n cap : Nat), v = .slice (some ⟨b, o, none⟩) n cap ∧ 0 < n ∧ zs.length = n ∧ n ≤ maxLen ∧ ∀ j, j < n → w.cell? ⟨b, o + j, none⟩ = some (.int .u64 (zs.getD j 0)) := by
  rcases h with h | ⟨a, len, cap, h1, h2, h3, h4⟩
  · exact .inl ⟨none, 0, by simpa using h⟩
  · obtain rfl : v = .slice (some a) len cap := by simpa using h1
    by_cases h0 : len = 0
    · exact .inl ⟨some a, cap, by rw [h0]⟩
    · have hex : ∀ i, ∃ x : Int, i < len → w.cell? (a.add i) = some (.int .u64 x) := fun i => by
        by_cases hi : i < len
        · obtain ⟨cs, c1, x, rfl, _⟩ := h4 i (by omega)
          refine ⟨x, fun _ => ?_⟩
          unfold World.cells? at c1
          rw [if_pos (Nat.zero_le _)] at c1
          simp only [Sh.size, Nat.mul_one, show List.range 1 = [0] from rfl] at c1
          cases hc : w.cell? (a.add i) with
          | none =>
            have h_ : w.cell? ((a.add i).add 0) = none := hc
            simp [List.mapM_cons, h_] at c1
          | some u =>
            have h_ : w.cell? ((a.add i).add 0) = some u := hc
            simp [List.mapM_cons, h_] at c1
            rw [c1]
        · exact ⟨0, fun h => absurd h hi⟩
      obtain ⟨F, hF⟩ := Classical.axiomOfChoice hex
      have hs := World.cell?_spot (hF 0 (by omega))
      obtain ⟨b, o, s⟩ := a
      obtain rfl : s = none := hs
      refine .inr ⟨b, o, (List.range len).map F, len, cap, rfl, by omega, by simp, by omega, fun j hj => ?_⟩
      have hz : (⟨b, o, none⟩ : Addr).add j = ⟨b, o + j, none⟩ := by
        unfold Addr.add
        split
        · rename_i h7; simp [h7]
        · rfl
      rw [← hz, hF j hj]
      simp [List.getD_eq_getElem?_getD, hj]
theorem majority_is' (b : Nat) (c : Cfg) (s : Nat) (v : Bool) (w : World) (hg : GrpAt w b c (2 * c.f + 1)) (h1 : 1 ≤ c.f) (h2 : c.f ≤ 3) (hs : s < 4294967296) (hT : Tab w) (hv : majB c s = v) :
    Calls Tryd.prog 19 #[.pointer (some ⟨b, 0, none⟩), .int .u32 s] w fun e w' => e = .returned (.bool v) ∧ Below w.heap.size w w' := hv ▸ majority_at b c s w hg h1 h2 hs hT
/-- A slice of numbers that the call has made, nil or not. -/
def OwnU (w : World) (B : Nat) (A : Option Addr) (cap : Nat) (zs : List Int) : Prop := w.ownsRow B 22 1 (.slice A zs.length cap) zs.length (zs.map (Value.int .u64))
theorem OwnU.below {w w' : World} {B cap : Nat} {A : Option Addr} {zs : List Int} (h : OwnU w B A cap zs) (hb : Below w.heap.size w w') : OwnU w' B A cap zs := by
  obtain ⟨hl, h | ⟨g', c, cur, hv, hB, hh, hn, hm, hs, ht⟩⟩ := h
  · exact ⟨hl, .inl h⟩
  · refine ⟨hl, .inr ⟨g', c, cur, hv, hB, (hb.block g' ?_).trans hh, hn, hm, hs, ht⟩⟩
    by_cases hlt : g' < w.heap.size
    · exact hlt
    · rw [Array.getElem?_eq_none (by omega)] at hh; simp at hh
theorem num_list {w : World} {ops : Array Oper} {rest : List Oper} {o : Oper} {a : Act} {Q : Exit → Act → World → Prop} (hgd : o.guard = none) (s x : Operand)
    (ho : o.op = .call { callee := .builtin .append, args := #[s, x], argTypes := #[83, 83] }) (B cap : Nat) (A : Option Addr) (zs : List Int) (y : Int) (hs : a.eval s = .slice A zs.length cap) (hown : OwnU w B A cap zs)
    (ad : Addr) (hx : a.eval x = .slice (some ad) 1 1) (hnews : ∀ j u, [Value.int .u64 y][j]? = some u → w.cell? (ad.add j) = some u) (hlen : zs.length ≤ 1000000) (hB : B ≤ w.heap.size)
    (h : ∀ A' cap' w', OwnU w' B A' cap' (zs ++ [y]) → Below B w w' → wpList Tryd.prog ops Q rest (a.put o.dst (.slice A' (zs ++ [y]).length cap')) w') :
    wpList Tryd.prog ops Q (o :: rest) a w := by
  obtain ⟨i, hi, hz0, hz1, hz2⟩ := info_parts numInfo
  refine wpList_append_own_at w hgd s x 83 ho B 22 i _ 1 8 Tryd.underlying83 hi hz0 hz1 hz2 rfl (by omega) _ zs.length (zs.map (Value.int .u64)) hs hown ad 1 1 [Value.int .u64 y] hx rfl hnews (by intro u hu; simp at hu; subst hu; rfl) (by unfold maxLen; omega) (by omega) hB ?_
  intro v' w' h2 h3 h4 h5
  obtain ⟨g, cap', rfl, hBg, hlt⟩ := h2.form (by omega)
  have hl : (zs ++ [y]).length = zs.length + 1 := by simp
  have hf : (zs ++ [y]).map (Value.int .u64) = zs.map (Value.int .u64) ++ [Value.int .u64 y] := by simp
  have h_ := h (some ⟨g, 0, none⟩) cap' w' (by unfold OwnU; rw [hl, hf]; exact h2) ⟨h3.os, h3.tape, h3.output, h3.size, fun k hk => h3.block k (by omega) (fun e => by have := (hown.lt k e.symm).1; omega)⟩
  rw [hl] at h_
  exact h_
/-- Mark, told by what it is. -/
def MarkPost (zs : List Int) (k : Nat) (w : World) (e : Ending) (w' : World) : Prop := ∃ m : Int, IsMark zs k m ∧ e = .returned (.tuple #[.int .u64 m, .nilIface]) ∧ Below w.heap.size w w'
theorem mark_is (b off n c k : Nat) (K : Int) (zs : List Int) (w : World) (hK : K = (k : Nat)) (hl : zs.length = n) (h0 : 0 < n) (hn : n ≤ 12) (hk : 1 ≤ k) (hkn : k ≤ n) (hc : ∀ j, j < n → w.cell? ⟨b, off + j, none⟩ = some (.int .u64 (zs.getD j 0))) :
    Calls Tryd.prog 48 #[.slice (some ⟨b, off, none⟩) n c, .int .i64 K] w (MarkPost zs k w) := by
  subst hK
  refine (mark_at b off n c k zs w hl h0 hn hk hkn hc).mono fun e w' ⟨ys, p1, p2, p3, p4⟩ => ⟨ys.getD (n - k) 0, ?_, p3, p4⟩
  subst hl
  exact isMark_of p1 p2 hk hkn
set_option maxRecDepth 100000 in
set_option maxHeartbeats 1600000 in
theorem reach_short (c : Cfg) (p : Option Addr) (n cap : Nat) (w : World) (ok : c.Ok) (hn : c.bad = -1 → ((n : Nat) : Int) ≠ 2 * c.f + 1) :
    Calls Tryd.prog 8 #[.agg #[.int .i64 c.f, .int .i64 c.mb, .int .u64 c.dl, .int .u64 c.wd, .int .u64 c.ev, .int .u64 c.bt, .int .u64 c.ep, .int .u64 c.em, .int .u64 c.mn, .int .u64 c.ms], .slice p n cap] w fun e w' => e = .returned (.bool true) ∧ Below w.heap.size w w' := by
  have HN := Lib.hid hn
  clear hn
  go_enter Tryd.func8, Tryd.ntmps8
  go_wp2_with fail
  refine (lmade_any c _ ok).mono ?_
  rintro e wa (⟨hb, b, rfl, hlb, hg, hb_wa⟩ | ⟨hb, rfl, hb_wa⟩)
  · obtain ⟨⟨f1, f2⟩, _⟩ := Cfg.valid hb
    have hne := HN.out hb
    replace hb := Lib.hid hb
    have HG := Lib.hid hg
    clear hg hlb
    have hc_wa := (bcell hb_wa).1
    have hf_wa := (bcell hb_wa).2
    have hz_wa_0 : w.heap.size < wa.heap.size := by have h_ := hb_wa.size; (try simp at h_); omega
    go_wp2_with fail
    refine (nodes_at b _ _ HG.out.nodes (by omega)).mono ?_
    rintro e w1 ⟨rfl, rfl⟩
    go_wp2
    go_ret
    exact ⟨by simp, (by repeat (first | with_reducible refine Below.drew ?_ | with_reducible refine below_drewN ?_ | with_reducible refine Below.alloc_ ?_ _ | with_reducible refine Below.setCell ?_ (by first | (simp; done) | (simp; omega)) _ | with_reducible exact Below.refl _ _ | with_reducible exact hb_wa | with_reducible refine Below.on ?_ hb_wa ))⟩
  · have hc_wa := (bcell hb_wa).1
    have hf_wa := (bcell hb_wa).2
    go_wp2
    go_ret
    exact ⟨by simp, (by repeat (first | with_reducible refine Below.drew ?_ | with_reducible refine below_drewN ?_ | with_reducible refine Below.alloc_ ?_ _ | with_reducible refine Below.setCell ?_ (by first | (simp; done) | (simp; omega)) _ | with_reducible exact Below.refl _ _ | with_reducible exact hb_wa | with_reducible refine Below.on ?_ hb_wa ))⟩
set_option maxRecDepth 100000 in
set_option maxHeartbeats 3200000 in
theorem reach_at (c : Cfg) (b0 o0 : Nat) (zs : List Int) (n cap : Nat) (w : World) (ok : c.Ok) (hT : Tab w) (hv : c.bad = -1) (hn : ((n : Nat) : Int) = 2 * c.f + 1) (hl : zs.length = n) (hc : ∀ j, j < n → w.cell? ⟨b0, o0 + j, none⟩ = some (.int .u64 (zs.getD j 0))) :
    Calls Tryd.prog 8 #[.agg #[.int .i64 c.f, .int .i64 c.mb, .int .u64 c.dl, .int .u64 c.wd, .int .u64 c.ev, .int .u64 c.bt, .int .u64 c.ep, .int .u64 c.em, .int .u64 c.mn, .int .u64 c.ms], .slice (some ⟨b0, o0, none⟩) n cap] w fun e w' => e = .returned (.bool true) ∧ Below w.heap.size w w' := by
  have HT := Lib.hid hT
  obtain ⟨⟨f1, f2⟩, _⟩ := Cfg.valid hv
  have lt0 : b0 < w.heap.size := cell_lt (hc 0 (by omega))
  have HC := Lib.hid hc
  replace hl := Lib.hid hl
  clear hT hc
  go_enter Tryd.func8, Tryd.ntmps8
  go_wp2_with fail
  refine (lmade_any c _ ok).mono ?_
  rintro e wa (⟨hb, b, rfl, hlb, hg, hb_wa⟩ | ⟨hb, rfl, hb_wa⟩)
  rotate_left
  · exact absurd hv hb
  replace hb := Lib.hid hb
  replace hv := Lib.hid hv
  have HG := Lib.hid hg
  clear hg hlb
  have hwa := Lib.hid (show Below w.heap.size w wa from Below.on (Below.alloc_ (Below.refl _ _) _) hb_wa)
  go_wp2_with fail
  refine (nodes_at b _ _ HG.out.nodes (by omega)).mono ?_
  rintro e w1 ⟨rfl, rfl⟩
  obtain ⟨K, hK⟩ : ∃ K : Nat, c.f + 1 = (K : Nat) := ⟨(c.f + 1).toNat, by omega⟩
  have hkn : 1 ≤ K ∧ K ≤ n ∧ n ≤ 12 := by omega
  replace hn := Lib.hid hn
  replace hK := Lib.hid hK
  go_wp2_with fail
  refine (quorum_at b _ _ _ HG.out.nodes HG.out.f (by omega) (by omega) f2).mono ?_
  rintro e w1 ⟨rfl, rfl⟩
  go_wp2_with fail
  refine (mark_is b0 o0 n cap K _ zs _ hK.out hl.out (by omega) hkn.2.2 hkn.1 hkn.2.1 (fun j hj => (hwa.out.cell (p := ⟨b0, o0 + j, none⟩) lt0).trans (HC.out j hj))).mono ?_
  rintro e wb ⟨m, hm, rfl, hb_wb⟩
  have hwb := Lib.hid (hwa.out.trans (hb_wb.mono hwa.out.size))
  replace hb_wb := Lib.hid hb_wb
  replace hm := Lib.hid hm
  clear hb_wa
  go_wp2
  go_loopw [9, 10, 11, 12] (fun t s u i wr => ∃ (k : Nat) (A : Option Addr) (c' : Nat), i = .int .i64 k ∧ k ≤ n ∧ t = .slice A (turnL zs k).length c' ∧ s = .int .u32 (atS zs m k : Nat) ∧ u = .int .u32 (ovS zs m k : Nat) ∧ OwnU wr wb.heap.size A c' (turnL zs k) ∧ Below wb.heap.size wb wr) (fun t s u i _ => 64 - (intOf i).toNat)
  case atStart => exact ⟨0, none, 0, rfl, by omega, rfl, rfl, rfl, World.ownsRow_nil _ _ _ _, Below.refl _ _⟩
  case round =>
    obtain ⟨k, A, c', rfl, hk, rfl, rfl, rfl, ho, hr⟩ := hrel
    have hw0 := hwb.out.trans (hr.mono hwb.out.size)
    have hle := hr.size
    have hlt1 := setTo_lt (fun i => decide (m ≤ zs.getD i 0)) k
    have hlt2 := setTo_lt (fun i => decide (m < zs.getD i 0)) k
    have htl := turnL_len (zs := zs) (k := k) (by rw [hl.out]; exact hk)
    replace ho := Lib.hid ho
    replace hr := Lib.hid hr
    by_cases hlt : k < n
    · obtain ⟨x, hx⟩ : ∃ x, x = zs.getD (n - 1 - k) 0 := ⟨_, rfl⟩
      obtain ⟨y, hy⟩ : ∃ y, y = zs.getD k 0 := ⟨_, rfl⟩
      have c1 : wr.cell? ⟨b0, o0 + (n - 1 - k), none⟩ = some (.int .u64 x) := hx ▸ (hw0.cell (p := ⟨b0, o0 + (n - 1 - k), none⟩) lt0).trans (HC.out (n - 1 - k) (by omega))
      have hnk : n ≤ 12 := hkn.2.2
      have b1 : ((n : Nat) : Int) - 1 - (k : Nat) = ((n - 1 - k : Nat) : Int) := by omega
      have b2 : (0 : Int) ≤ ((n : Nat) : Int) - 1 - (k : Nat) := by omega
      have b3 : ((n : Nat) : Int) - 1 - (k : Nat) < (n : Nat) := by omega
      have b4 : ((n - 1 - k : Nat) : Int) < (n : Nat) := by omega
      have lt1 : b0 < wr.heap.size := Nat.lt_of_lt_of_le lt0 hw0.size
      have hlz : k < zs.length := by rw [hl.out]; exact hlt
      have htn := turnL_succ (zs := zs) (k := k) hlz
      rw [hl.out, ← hx] at htn
      replace htn := Lib.hid htn
      have hkz := Lib.hid (fun w3 => (fun (h : Below w.heap.size w w3) => (hy ▸ (h.cell (p := ⟨b0, o0 + k, none⟩) lt0).trans (HC.out k hlt) : w3.cell? ⟨b0, o0 + k, none⟩ = some (.int .u64 y))))
      have e1 : ∀ b, decide (m ≤ y) = b → (fun i => decide (m ≤ zs.getD i 0)) k = b := fun b h => by rw [hy] at h; exact h
      have e2 : ∀ b, decide (m < y) = b → (fun i => decide (m < zs.getD i 0)) k = b := fun b h => by rw [hy] at h; exact h
      replace e1 := Lib.hid e1
      replace e2 := Lib.hid e2
      clear hx hy hw0
      go_wp2_with (at_builtin; go_loud (refine num_list rfl _ _ rfl wb.heap.size c' A (turnL zs k) x rfl (ho.out.below (Below.alloc_ (Below.refl _ _) _)) _ rfl (World.news_of_block (cs := #[.int .u64 x]) (t := 22) (fr := (0, 0)) (heap_alloc_new wr _)) (by omega) (by simp; omega) ?_))
      intro A' c'' w3 ho3 hg3
      rw [← htn.out] at ho3
      replace ho3 := Lib.hid ho3
      have hw3 := Lib.hid (hr.out.trans (show Below wb.heap.size wr w3 from ((Below.refl _ wr).alloc hle _).trans hg3))
      have d2 := hkz.out w3 (hwb.out.trans (hw3.out.mono hwb.out.size))
      have tl2 := turnL_len (zs := zs) (k := k + 1) (by omega)
      clear c1 hg3 tl2
      have REL : ∀ (s u : Nat), s = atS zs m (k + 1) → u = ovS zs m (k + 1) → ∃ (k' : Nat) (A1 : Option Addr) (c1 : Nat), Value.int .i64 ((k : Int) + 1) = .int .i64 k' ∧ k' ≤ n ∧ Value.slice A' (k + 1) c'' = .slice A1 (turnL zs k').length c1 ∧ Value.int .u32 (s : Int) = .int .u32 (atS zs m k' : Nat) ∧ Value.int .u32 (u : Int) = .int .u32 (ovS zs m k' : Nat) ∧ OwnU w3 wb.heap.size A1 c1 (turnL zs k') ∧ Below wb.heap.size wb w3 := fun s u h1 h2 =>
        ⟨k + 1, A', c'', by go_num, by omega, by rw [turnL_len (by omega)], by rw [h1], by rw [h2], ho3.out, hw3.out⟩
      replace REL := Lib.hid REL
      by_cases hmy : m ≤ y
      · have hs := setTo_yes (f := fun i => decide (m ≤ zs.getD i 0)) (k := k) (e1.out true (decide_eq_true hmy))
        replace hs := Lib.hid hs
        by_cases hmy' : m < y
        · have hu := setTo_yes (f := fun i => decide (m < zs.getD i 0)) (k := k) (e2.out true (decide_eq_true hmy'))
          replace hu := Lib.hid hu
          go_wp2_with fail
          refine (with_any _ _ _ hlt1).mono ?_
          rintro e w1 ⟨rfl, rfl⟩
          go_wp2_with fail
          refine (with_any _ _ _ hlt2).mono ?_
          rintro e w1 ⟨rfl, rfl⟩
          go_wp2
          go_roundw
          case measure => simp [intOf]; omega
          case rel => exact REL.out _ _ hs.out.symm hu.out.symm
        · have hu := setTo_no (f := fun i => decide (m < zs.getD i 0)) (k := k) (e2.out false (decide_eq_false hmy'))
          replace hu := Lib.hid hu
          go_wp2_with fail
          refine (with_any _ _ _ hlt1).mono ?_
          rintro e w1 ⟨rfl, rfl⟩
          go_wp2
          go_roundw
          case measure => simp [intOf]; omega
          case rel => exact REL.out _ _ hs.out.symm hu.out.symm
      · have hmy' : ¬ m < y := by omega
        have hs := setTo_no (f := fun i => decide (m ≤ zs.getD i 0)) (k := k) (e1.out false (decide_eq_false hmy))
        replace hs := Lib.hid hs
        have hu := setTo_no (f := fun i => decide (m < zs.getD i 0)) (k := k) (e2.out false (decide_eq_false hmy'))
        replace hu := Lib.hid hu
        go_wp2
        go_roundw
        case measure => simp [intOf]; omega
        case rel => exact REL.out _ _ hs.out.symm hu.out.symm
    · obtain rfl : k = n := by omega
      have hx := reach_maj (c := c) (zs := zs) (m := m) f1 f2 (by rw [hl.out]; exact hn.out) (by rw [hK.out]; exact hm.out)
      rw [hl.out] at hx
      have hx := Lib.hid hx
      have htp := turnL_perm zs
      rw [hl.out] at htp
      replace htp := Lib.hid htp
      obtain ⟨g, cap', hgv, hBg, hlg⟩ := ho.out.form (by omega)
      obtain ⟨rfl, rfl⟩ : A = some ⟨g, 0, none⟩ ∧ c' = cap' := by injection hgv with h1 h2 h3; exact ⟨h1, h3⟩
      have hcell : ∀ j, j < k → wr.cell? ⟨g, 0 + j, none⟩ = some (.int .u64 ((turnL zs k).getD j 0)) := fun j hj => by
        rw [Nat.zero_add, World.ownsRow.cellAt ho.out j (by omega)]
        simp [List.getD_eq_getElem?_getD, show j < (turnL zs k).length by omega]
      have M := mark_is g 0 k c' K _ (turnL zs k) wr hK.out htl (by omega) hkn.2.2 hkn.1 hkn.2.1 hcell
      replace M := Lib.hid M
      have hgw := Lib.hid ((HG.out.below HG.out.lt hb_wb.out).below (Nat.lt_of_lt_of_le HG.out.lt hb_wb.out.size) hr.out)
      clear hgv hcell hBg hlg
      rw [htl]
      go_wp2_with fail
      refine (quorum_at b _ _ _ hgw.out.nodes hgw.out.f (by omega) (by omega) f2).mono ?_
      rintro e w1 ⟨rfl, rfl⟩
      go_wp2_with fail
      refine M.out.mono ?_
      rintro e wc ⟨m', hm', rfl, hb_wc⟩
      obtain rfl : m' = m := (hm'.perm htp.out).uniq hm.out
      replace hm' := Lib.hid hm'
      have hgc := Lib.hid (hgw.out.below hgw.out.lt hb_wc)
      have htc := Lib.hid (HT.out.below (Nat.le_refl _) (hw0.trans (hb_wc.mono hw0.size)))
      replace hw0 := Lib.hid hw0
      replace hb_wc := Lib.hid hb_wc
      go_wp2_with fail
      refine (majority_is' b c _ true _ hgc.out f1 f2 hlt1 htc.out hx.out.1).mono ?_
      rintro e wd ⟨rfl, hb_wd⟩
      have hgd := Lib.hid (hgc.out.below hgc.out.lt hb_wd)
      have htd := Lib.hid (htc.out.below (Nat.le_refl _) hb_wd)
      replace hb_wd := Lib.hid hb_wd
      go_wp2_with fail
      refine (majority_is' b c _ false _ hgd.out f1 f2 hlt2 htd.out hx.out.2).mono ?_
      rintro e we ⟨rfl, hb_we⟩
      replace hb_we := Lib.hid hb_we
      go_wp2
      go_ret
      exact ⟨by simp, Below.on (Below.on (Below.on hw0.out hb_wc.out) hb_wd.out) hb_we.out⟩
theorem reach_walk (c : Cfg) (v : Value) (w : World) (ok : c.Ok) (hT : Tab w) (hv : (Sh.slice (.int .u64)).Holds w [v]) :
    Calls Tryd.prog 8 #[.agg #[.int .i64 c.f, .int .i64 c.mb, .int .u64 c.dl, .int .u64 c.wd, .int .u64 c.ev, .int .u64 c.bt, .int .u64 c.ep, .int .u64 c.em, .int .u64 c.mn, .int .u64 c.ms], v] w fun e w' => e = .returned (.bool true) ∧ Below w.heap.size w w' := by
  rcases nums_open hv with ⟨p, cap, rfl⟩ | ⟨b0, o0, zs, n, cap, rfl, h0, hl, hn, hc⟩
  · exact reach_short c p 0 cap w ok fun h => by obtain ⟨⟨f1, f2⟩, _⟩ := Cfg.valid h; omega
  · by_cases hb : c.bad = -1
    · by_cases hn : ((n : Nat) : Int) = 2 * c.f + 1
      · exact reach_at c b0 o0 zs n cap w ok hT hb hn hl hc
      · exact reach_short c _ n cap w ok fun _ => hn
    · exact reach_short c _ n cap w ok fun h => absurd h hb
theorem reach_law (a0 a1 a2 a3 a4 a5 a6 a7 a8 a9 : Int) (v : Value) (w : World) (h0 : (Lit.int .i64 a0).wf = true) (h1 : (Lit.int .i64 a1).wf = true) (h2 : (Lit.int .u64 a2).wf = true) (h3 : (Lit.int .u64 a3).wf = true) (h4 : (Lit.int .u64 a4).wf = true) (h5 : (Lit.int .u64 a5).wf = true) (h6 : (Lit.int .u64 a6).wf = true) (h7 : (Lit.int .u64 a7).wf = true) (h8 : (Lit.int .u64 a8).wf = true) (h9 : (Lit.int .u64 a9).wf = true) (hv : (Sh.slice (Sh.int .u64)).Holds w [v]) (hT : Tab w) :
    Calls Tryd.prog 8 #[.agg #[.int .i64 a0, .int .i64 a1, .int .u64 a2, .int .u64 a3, .int .u64 a4, .int .u64 a5, .int .u64 a6, .int .u64 a7, .int .u64 a8, .int .u64 a9], v] w fun e w' => e = .returned (.bool true) ∧ Below w.heap.size w w' :=
  reach_walk ⟨a0, a1, a2, a3, a4, a5, a6, a7, a8, a9⟩ v w ⟨(wf_i64 h0).1, (wf_i64 h0).2, (wf_i64 h1).1, (wf_i64 h1).2, (wf_u64 h2).1, (wf_u64 h3).1, (wf_u64 h4).1, (wf_u64 h5).1, (wf_u64 h6).1, (wf_u64 h7).1, (wf_u64 h8).1, (wf_u64 h9).1⟩ hT hv
end Go.Proofs.YtehmbcpgendkjaaDoor
