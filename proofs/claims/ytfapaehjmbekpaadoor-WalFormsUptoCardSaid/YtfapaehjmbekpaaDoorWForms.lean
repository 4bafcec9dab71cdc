import Derived.Test.YtfapaehjmbekpaaDoorWForm1
import Derived.Test.YtfapaehjmbekpaaDoorWRScan
import Derived.Test.YtfapaehjmbekpaaDoorWKept
import Derived.Test.YtfapaehjmbekpaaDoorWApart
import Derived.Test.YtfapaehjmbekpaaDoorWOpen
import Derived.Test.YtfapaehjmbekpaaDoorWReads
namespace Go.Proofs.YtfapaehjmbekpaaDoor
open Go.RowKit
set_option linter.unusedSimpArgs false
set_option linter.unusedVariables false
theorem RdB.put {w : World} {p : Option Addr} {l : List Int} {a : Addr} {u : Value} (v : Value) (h : RdB w p l) (hc : w.cell? a = some u) (hu : ∀ x, u ≠ .int .u8 x) : RdB (w.setCell a v) p l := fun j hj => by
  obtain ⟨b, o, h1, h2, h3⟩ := h j hj
  refine ⟨b, o, h1, by simpa using h2, ?_⟩
  rw [World.cell?_setCell_other _ _ _ _ (fun e => by
    have e2 : w.cell? ⟨b, o + j, none⟩ = w.cell? a := by rw [e]
    rw [h3, hc] at e2
    injection e2 with e2
    exact hu _ e2.symm)]
  exact h3
theorem ErrC.put {w : World} {ev : Value} {c : Int} {f i : Nat} {p : Option Addr} {n d : Nat} (v : Value) (h : ErrC w ev c) (h0 : w.cell? ⟨f, 0, none⟩ = some (.slice p n d)) : ErrC (w.setCell ⟨f, i, none⟩ v) ev c := by
  rcases h with h | ⟨hc, b, v', h1, h2, h3, h4, h5, h6⟩
  · exact .inl h
  · have hne : b ≠ f := fun e => by rw [e, h0] at h3; cases h3
    have ho : ∀ k, (w.setCell ⟨f, i, none⟩ v).cell? ⟨b, k, none⟩ = w.cell? ⟨b, k, none⟩ := fun k => World.cell?_setCell_other _ _ _ _ (fun e => hne (by have h_ := congrArg Addr.block e; first | exact h_ | exact h_.symm))
    exact .inr ⟨hc, b, v', h1, by simpa using h2, (ho 0).trans h3, (ho 1).trans h4, (ho 2).trans h5, h6⟩
theorem FltC.put {w : World} {s : Value} {c : Int} {f i : Nat} {p : Option Addr} {n d : Nat} (v : Value) (h : FltC w s c) (h0 : w.cell? ⟨f, 0, none⟩ = some (.slice p n d)) : FltC (w.setCell ⟨f, i, none⟩ v) s c := by
  rcases h with h | ⟨hc, h⟩
  · exact .inl h
  · refine .inr ⟨hc, ?_⟩
    rcases h with h | ⟨g, cap, h1, h2, h3⟩
    · exact .inl h
    · have hs := h3 0 (.string walS) rfl
      have hne : g ≠ f := fun e => by rw [e, h0] at hs; cases hs
      exact .inr ⟨g, cap, h1, by simpa using h2, fun k u hu => (World.cell?_setCell_other _ _ _ _ (fun e => hne (by have h_ := congrArg Addr.block e; first | exact h_ | exact h_.symm))).trans (h3 k u hu)⟩
theorem rscan_at (file : Nat) (p : Option Addr) (n c : Nat) (data : List Int) (w : World) (hl : data.length = n) (hm : n ≤ 1000000000) (hnc : n ≤ c) (hr : RdB w p data) (hY : Byt data) (hf : file < 18446744073709551616) : Calls Tryd.prog 14 #[.int .u64 file, .slice p n c] w (ScanPost file data w) := by
  by_cases h : file = 0 ∨ 4611686018427387904 < file
  · exact rscan_file file p n c data w h hf
  · exact rscan_ok file p n c data w hl hm hnc hr hY (by omega) (by omega)
theorem ScanPost.yesX {file n : Nat} {ls : List (List Int)} {data : List Int} {w w' : World} {e : Ending} (h : ScanPost file data w e w') (hn : scanR file data = some (n, ls)) :
    ∃ p c xs, e = .returned (.tuple #[.int .i64 (n : Nat), .slice p ls.length c, .int .i64 (21 + sizeL ls : Nat), .int .i64 0]) ∧ RowsX w' w.heap.size (.slice p ls.length c) ls xs ∧ Below w.heap.size w w' := by
  rcases h with ⟨h1, _⟩ | ⟨n', ls', v, xs, h1, h2, h3, h4⟩
  · rw [hn] at h1; cases h1
  · rw [hn] at h1
    injection h1 with h1
    injection h1 with e1 e2
    subst e1 e2
    obtain ⟨p, c, rfl⟩ := h3.form
    exact ⟨p, c, xs, h2, h3, h4⟩
theorem nextB_le {n : Nat} {rest b : List Int} (h : nextB n rest = some b) : b.length ≤ 60000 := (nextB_len h).2.1
theorem scanL_le : ∀ (f n : Nat) (rest : List Int), (∀ b ∈ scanL f n rest, b.length ≤ 60000) ∧ 16 * (scanL f n rest).length ≤ rest.length
  | 0, n, rest => by simp [scanL]
  | f + 1, n, rest => by
    simp only [scanL]
    cases hn : nextB n rest with
    | none => simp
    | some b =>
      obtain ⟨h1, h2, _⟩ := nextB_len hn
      obtain ⟨h3, h4⟩ := scanL_le f (n + 1) (rest.drop (b.length + 16))
      simp only [List.length_cons, List.length_drop] at h4 ⊢
      refine ⟨fun x hx => ?_, by omega⟩
      rcases List.mem_cons.1 hx with rfl | hx
      · exact h2
      · exact h3 x hx
theorem scanR_le {file n : Nat} {data : List Int} {ls : List (List Int)} (h : scanR file data = some (n, ls)) : (∀ b ∈ ls, b.length ≤ 60000) ∧ ls.length ≤ data.length := by
  unfold scanR at h
  split at h
  · cases h
  · split at h
    · split at h
      · cases h
      · injection h with h
        injection h with _ h
        subst h
        obtain ⟨h1, h2⟩ := scanL_le data.length 0 (data.drop 21)
        refine ⟨h1, ?_⟩
        unfold scanAll
        simp at h2
        omega
    · cases h
theorem header_both' (file : Nat) (base : Int) (hf : file < 18446744073709551616) : ∃ l cc, l.length ≤ 21 ∧ (∀ w, Nib w → Calls Tryd.prog 5 #[.int .u64 file, .int .i64 base] w (HdP l cc w)) ∧ (∀ w, Calls Tryd.prog 6 #[.int .u64 file, .int .i64 base] w (HdR l cc w)) := by
  by_cases h1 : file = 0 ∨ 4611686018427387904 < file
  · exact ⟨[], 1, by simp, fun w _ => (header_file' file base w h1 hf).mono fun e w' h => HdP.refuse h (by decide), fun w => (rheader_file file base w h1 hf).mono fun e w' h => HdR.refuse h (by decide)⟩
  · by_cases h2 : base < 0 ∨ 64 < base
    · exact ⟨[], 169, by simp, fun w _ => (header_base file base w (by omega) (by omega) h2).mono fun e w' h => HdP.refuse h (by decide), fun w => (rheader_base file base w (by omega) (by omega) h2).mono fun e w' h => HdR.refuse h (by decide)⟩
    · obtain ⟨b, rfl⟩ : ∃ b : Nat, base = b := ⟨base.toNat, by omega⟩
      exact ⟨hdr file b, 0, by rw [hdr_len]; omega, fun w hT => (header_ok file b w (by omega) (by omega) (by omega) hT).mono fun e w' h => HdP.ok h, fun w => (rheader_ok file b w (by omega) (by omega) (by omega)).mono fun e w' h => HdR.ok h⟩
theorem same_is (p q : Option Addr) (n c m d : Nat) (l : List Int) (w : World) (hl : l.length = n) (hr : l.length = m) (hm : n ≤ maxLen) (hp : RdB w p l) (hq : RdB w q l) :
    Calls Tryd.prog 8 #[.slice p n c, .slice q m d] w fun e w' => e = .returned (.bool true) ∧ Below w.heap.size w w' := by
  have := wsame_at p q n c m d l l w hl hr hm hp hq
  rwa [eqB_true rfl] at this
set_option maxRecDepth 100000 in
set_option maxHeartbeats 6400000 in
theorem forms_at (file : Nat) (base idx : Int) (p q : Option Addr) (n c m d : Nat) (body data : List Int) (w : World) (hf : file < 18446744073709551616) (hbl : body.length = n) (hdl : data.length = m) (hn : n ≤ 1000000000) (hm : m ≤ 1000000000) (hpz : p = none → c = 0) (hqz : m ≤ d) (hp : RdB w p body) (hq : RdB w q data) (hbY : Byt body) (hdY : Byt data) (hT : Nib w) :
    Calls Tryd.prog 3 #[.int .u64 file, .int .i64 base, .int .i64 idx, .slice p n c, .slice q m d] w fun e w' => e = .returned (.bool true) ∧ Below w.heap.size w w' := by
  obtain ⟨hl, hcc, hl21, H1, H2⟩ := header_both' file base hf
  obtain ⟨fl, fcc, hfl60, F1, F2⟩ := frame_both idx n body hbl hbY
  have HP := Lib.hid hp
  have HQ := Lib.hid hq
  have HT := Lib.hid hT
  have HDY := Lib.hid hdY
  replace H1 := Lib.hid H1
  replace H2 := Lib.hid H2
  replace F1 := Lib.hid F1
  replace F2 := Lib.hid F2
  replace hbl := Lib.hid hbl
  replace hdl := Lib.hid hdl
  clear hp hq hT hdY hbY
  go_enter Tryd.func3, Tryd.ntmps3
  go_wp2_with fail
  refine (H1.out _ HT.out).mono ?_
  rintro e w1 ⟨p1, n1, c1, ev1, rfl, hl1, hr1, he1, hb1⟩
  have hw1 := Lib.hid hb1
  replace hr1 := Lib.hid hr1
  replace he1 := Lib.hid he1
  replace hl1 := Lib.hid hl1
  clear hb1
  go_wp2_with fail
  refine (H2.out _).mono ?_
  rintro e w2 ⟨p2, n2, c2, sp2, sn2, sc2, rfl, hl2, hr2, hf2, hb2⟩
  have hw2 := Lib.hid (Below.on hw1.out hb2)
  have hr12 := Lib.hid (hr1.out.below hb2)
  have he12 := Lib.hid (he1.out.below hb2)
  replace hr2 := Lib.hid hr2
  replace hf2 := Lib.hid hf2
  replace hl2 := Lib.hid hl2
  clear hb2 hr1 he1
  go_wp2_with fail
  have hX : Below w2.heap.size w2 (w2.alloc (Obj.cells #[.slice sp2 sn2 sc2, .int .i64 hcc] 30)) := Below.alloc_ (Below.refl _ _) _
  have x0 : (w2.alloc (Obj.cells #[.slice sp2 sn2 sc2, .int .i64 hcc] 30)).cell? ⟨w2.heap.size, 0, none⟩ = some (.slice sp2 sn2 sc2) := by simp
  have x1 : (w2.alloc (Obj.cells #[.slice sp2 sn2 sc2, .int .i64 hcc] 30)).cell? ⟨w2.heap.size, 1, none⟩ = some (.int .i64 hcc) := by simp
  have y0 : (w2.alloc (Obj.cells #[.slice sp2 sn2 sc2, .int .i64 hcc] 30)).frozen? ⟨w2.heap.size, 0, none⟩ = false := by simp
  have y1 : (w2.alloc (Obj.cells #[.slice sp2 sn2 sc2, .int .i64 hcc] 30)).frozen? ⟨w2.heap.size, 1, none⟩ = false := by simp
  have xz : w2.heap.size < (w2.alloc (Obj.cells #[.slice sp2 sn2 sc2, .int .i64 hcc] 30)).heap.size := by simp
  generalize w2.alloc (Obj.cells #[.slice sp2 sn2 sc2, .int .i64 hcc] 30) = W at *
  have hwW := Lib.hid (Below.on hw2.out hX)
  have heW := Lib.hid (he12.out.below hX)
  have hfW := Lib.hid (hf2.out.below hX)
  have hrW1 := Lib.hid (hr12.out.below hX)
  have hrW2 := Lib.hid (hr2.out.below hX)
  obtain ⟨fb, hfb⟩ : ∃ fb, fb = w2.heap.size := ⟨_, rfl⟩
  have hfbw : w.heap.size ≤ fb := by rw [hfb]; exact hw2.out.size
  rw [← hfb] at x0 x1 y0 y1 xz ⊢
  replace x0 := Lib.hid x0
  replace x1 := Lib.hid x1
  replace y0 := Lib.hid y0
  replace y1 := Lib.hid y1
  replace hfb := Lib.hid hfb
  clear hX hr12 he12 hr2 hf2
  refine (is_both ev1 (.slice sp2 sn2 sc2) hcc _ heW.out hfW.out).mono ?_
  rintro e w3 ⟨rfl, hb3⟩
  have hw3 := Lib.hid (Below.on hwW.out hb3)
  have hW3 := Lib.hid hb3
  clear hb3 heW hfW
  go_wp2_with fail
  refine (same_is p1 p2 n1 c1 n2 c2 hl _ hl1.out hl2.out (by have := hl1.out; unfold maxLen; omega) (hrW1.out.below hW3.out) (hrW2.out.below hW3.out)).mono ?_
  rintro e w4 ⟨rfl, hb4⟩
  have hw4 := Lib.hid (Below.on hw3.out hb4)
  have hW4 := Lib.hid (Below.on hW3.out hb4)
  clear hb4 hrW1 hrW2 hw3 hW3 hl1 hl2
  go_wp2_with fail
  refine (lend_at p n c body _ hbl.out (by omega) (HP.out.below hw4.out)).mono ?_
  rintro e w5 ⟨g5, k5, rfl, hk5, ho5, hb5⟩
  have hr5 := Lib.hid ((OwnB.rd ho5).2)
  have hw5 := Lib.hid (Below.on hw4.out hb5)
  have hW5 := Lib.hid (Below.on hW4.out hb5)
  clear ho5 hb5 hw4 hW4
  go_wp2_with fail
  refine (F1.out (some ⟨g5, 0, none⟩) k5 _ (by simp) hr5.out.left (HT.out.below (Nat.le_refl _) hw5.out)).mono ?_
  rintro e w6 ⟨p6, n6, c6, ev6, rfl, hl6, hr6, he6, hb6⟩
  have hw6 := Lib.hid (Below.on hw5.out hb6)
  have hW6 := Lib.hid (Below.on hW5.out hb6)
  have hr56 := Lib.hid (hr5.out.below hb6)
  replace hl6 := Lib.hid hl6
  replace hr6 := Lib.hid hr6
  replace he6 := Lib.hid he6
  clear hb6 hw5 hW5 hr5
  go_wp2_with fail
  refine (F2.out p c _ (HP.out.below hw6.out)).mono ?_
  rintro e w7 ⟨p7, n7, c7, sp7, sn7, sc7, rfl, hl7, hr7, hf7, hb7⟩
  have hw7 := Lib.hid (Below.on hw6.out hb7)
  have hW7 := Lib.hid (Below.on hW6.out hb7)
  have hr57 := Lib.hid (hr56.out.below hb7)
  have hr67 := Lib.hid (hr6.out.below hb7)
  have he67 := Lib.hid (he6.out.below hb7)
  replace hl7 := Lib.hid hl7
  replace hr7 := Lib.hid hr7
  replace hf7 := Lib.hid hf7
  clear hb7 hw6 hW6 hr56 hr6 he6
  have u0 : w7.cell? ⟨fb, 0, none⟩ = some (.slice sp2 sn2 sc2) := (hW7.out.cell (p := ⟨fb, 0, none⟩) xz).trans x0.out
  have u1 : w7.cell? ⟨fb, 1, none⟩ = some (.int .i64 hcc) := (hW7.out.cell (p := ⟨fb, 1, none⟩) xz).trans x1.out
  have z0 : w7.frozen? ⟨fb, 0, none⟩ = false := (hW7.out.frozen (p := ⟨fb, 0, none⟩) xz).trans y0.out
  have z1 : w7.frozen? ⟨fb, 1, none⟩ = false := (hW7.out.frozen (p := ⟨fb, 1, none⟩) xz).trans y1.out
  have zl : fb < w7.heap.size := Nat.lt_of_lt_of_le xz hW7.out.size
  go_wp2_with fail
  have v0 : (w7.setCell ⟨fb, 0, none⟩ (.slice sp7 sn7 sc7)).cell? ⟨fb, 0, none⟩ = some (.slice sp7 sn7 sc7) := World.cell?_setCell_same' _ _ _ (by rw [u0]; rfl)
  have v1 : (w7.setCell ⟨fb, 0, none⟩ (.slice sp7 sn7 sc7)).cell? ⟨fb, 1, none⟩ = some (.int .i64 hcc) := (World.cell?_setCell_other _ _ _ _ (by simp)).trans u1
  have put2 : ∀ {p' : Option Addr} {l' : List Int}, RdB w7 p' l' → RdB ((w7.setCell ⟨fb, 0, none⟩ (.slice sp7 sn7 sc7)).setCell ⟨fb, 1, none⟩ (.int .i64 fcc)) p' l' := fun h => (h.put _ u0 (fun x e => by cases e)).put _ v1 (fun x e => by cases e)
  have rP := Lib.hid (put2 (HP.out.below hw7.out))
  have rQ := Lib.hid (put2 (HQ.out.below hw7.out))
  have r5 := Lib.hid (put2 hr57.out)
  have r6 := Lib.hid (put2 hr67.out)
  have r7 := Lib.hid (put2 hr7.out)
  have e6 := Lib.hid ((he67.out.put (.slice sp7 sn7 sc7) (i := 0) u0).put (.int .i64 fcc) (i := 1) v0)
  have f7 := Lib.hid ((hf7.out.put (.slice sp7 sn7 sc7) (i := 0) u0).put (.int .i64 fcc) (i := 1) v0)
  have hwV := Lib.hid (show Below w.heap.size w ((w7.setCell ⟨fb, 0, none⟩ (.slice sp7 sn7 sc7)).setCell ⟨fb, 1, none⟩ (.int .i64 fcc)) from (hw7.out.setCell (p := ⟨fb, 0, none⟩) hfbw _).setCell (p := ⟨fb, 1, none⟩) hfbw _)
  have TV := Lib.hid (HT.out.below (Nat.le_refl _) hwV.out)
  generalize (w7.setCell ⟨fb, 0, none⟩ (.slice sp7 sn7 sc7)).setCell ⟨fb, 1, none⟩ (.int .i64 fcc) = V at *
  clear put2 v0 v1 u0 u1 z0 z1 zl hr57 hr67 hr7 he67 hf7 hW7 x0 x1 y0 y1 xz hfb HP HQ
  refine (is_both ev6 (.slice sp7 sn7 sc7) fcc _ e6.out f7.out).mono ?_
  rintro e w8 ⟨rfl, hb8⟩
  have hw8 := Lib.hid (Below.on hwV.out hb8)
  have hV8 := Lib.hid hb8
  clear hb8 e6 f7 hw7
  go_wp2_with fail
  refine (same_is p6 p7 n6 c6 n7 c7 fl _ hl6.out hl7.out (by have := hl6.out; unfold maxLen; omega) (r6.out.below hV8.out) (r7.out.below hV8.out)).mono ?_
  rintro e w9 ⟨rfl, hb9⟩
  have hw9 := Lib.hid (Below.on hw8.out hb9)
  have hV9 := Lib.hid (Below.on hV8.out hb9)
  clear hb9 r6 r7 hl6 hl7 hw8 hV8
  go_wp2_with fail
  refine (kept_at g5 k5 p n c body _ hbl.out hn hk5 (r5.out.below hV9.out) (rP.out.below hV9.out)).mono ?_
  rintro e w10 ⟨rfl, hb10⟩
  have hw10 := Lib.hid (Below.on hw9.out hb10)
  have hV10 := Lib.hid (Below.on hV9.out hb10)
  clear hb10 r5 rP hw9 hV9
  go_wp2_with fail
  refine (lend_at q m d data _ hdl.out (by omega) (rQ.out.below hV10.out)).mono ?_
  rintro e w11 ⟨g11, k11, rfl, hk11, ho11, hb11⟩
  have hr11 := Lib.hid ((OwnB.rd ho11).2)
  have hg11 : g11 < w11.heap.size := (ho11.lt g11 rfl).2
  have hw11 := Lib.hid (Below.on hw10.out hb11)
  have hV11 := Lib.hid (Below.on hV10.out hb11)
  have T11 := Lib.hid (TV.out.below (Nat.le_refl _) hV11.out)
  clear ho11 hb11 hw10 hV10
  have S1 := Lib.hid (scan_at file (some ⟨g11, 0, none⟩) m k11 data w11 hdl.out (by omega) (by omega) hr11.out.left HDY.out hf T11.out)
  go_wp2_with fail
  cases hsc : scanR file data with
  | none =>
    refine (S1.out.mono fun e w' h => ScanPost.no h hsc).mono ?_
    rintro e w12 ⟨rfl, hb12⟩
    have hw12 := Lib.hid (Below.on hw11.out hb12)
    have hV12 := Lib.hid (Below.on hV11.out hb12)
    have hr12' := Lib.hid (hr11.out.below hb12)
    clear hb12 S1
    go_wp2_with fail
    refine ((rscan_at file q m d data _ hdl.out hm hqz (rQ.out.below hV12.out) HDY.out hf).mono fun e w' h => ScanPost.no h hsc).mono ?_
    rintro e w13 ⟨rfl, hb13⟩
    have hw13 := Lib.hid (Below.on hw12.out hb13)
    have hV13 := Lib.hid (Below.on hV12.out hb13)
    have hr13 := Lib.hid (hr12'.out.below hb13)
    clear hb13
    go_wp2_with fail
    refine (sameall_at none none 0 0 0 [] _ rfl (by simp) (fun i h => by simp at h) (fun i h => by simp at h) (fun i h => by simp at h)).mono ?_
    rintro e w14 ⟨rfl, hb14⟩
    have hw14 := Lib.hid (Below.on hw13.out hb14)
    have hV14 := Lib.hid (Below.on hV13.out hb14)
    have hr14 := Lib.hid (hr13.out.below hb14)
    clear hb14
    go_wp2_with fail
    refine (kept_at g11 k11 q m d data _ hdl.out hm hk11 hr14.out (rQ.out.below hV14.out)).mono ?_
    rintro e w15 ⟨rfl, hb15⟩
    have hw15 := Lib.hid (Below.on hw14.out hb15)
    have hV15 := Lib.hid (Below.on hV14.out hb15)
    have hr15 := Lib.hid (hr14.out.below hb15)
    clear hb15
    go_wp2_with fail
    refine (apart_at w15.heap.size (.slice none 0 0) [] [] _ 0 rfl (by omega) (fun i h => by simp at h) (rowsX_nil _ _) (Nat.le_refl _)).mono ?_
    rintro e w16 ⟨rfl, hb16⟩
    have hw16 := Lib.hid (Below.on hw15.out hb16)
    have hV16 := Lib.hid (Below.on hV15.out hb16)
    have hr16 := Lib.hid (hr15.out.below hb16)
    clear hb16
    go_wp2_with fail
    refine (kept_at g11 k11 q m d data _ hdl.out hm hk11 hr16.out (rQ.out.below hV16.out)).mono ?_
    rintro e w17 ⟨rfl, hb17⟩
    replace hb17 := Lib.hid hb17
    go_wp2
    go_ret
    exact ⟨by simp, Below.on hw16.out hb17.out⟩
  | some r =>
    obtain ⟨bn, ls⟩ := r
    obtain ⟨hls1, hls2⟩ := scanR_le hsc
    have hlsm : ls.length ≤ 1000000000 := by rw [hdl.out] at hls2; omega
    have hlsb : ∀ i (h : i < ls.length), (ls[i]).length ≤ 1000000000 := fun i h => by have := hls1 _ (List.getElem_mem h); omega
    have HB := Lib.hid hlsb
    clear hls1 hls2 hlsb
    refine (S1.out.mono fun e w' h => ScanPost.yesX h hsc).mono ?_
    rintro e w12 ⟨pa, ca, xs, rfl, hx12, hb12⟩
    have hw12 := Lib.hid (Below.on hw11.out hb12)
    have hV12 := Lib.hid (Below.on hV11.out hb12)
    have hr12' := Lib.hid (hr11.out.below hb12)
    have hz12 := hb12.size
    replace hx12 := Lib.hid hx12
    clear hb12 S1
    go_wp2_with fail
    refine ((rscan_at file q m d data _ hdl.out hm hqz (rQ.out.below hV12.out) HDY.out hf).mono fun e w' h => ScanPost.yesX h hsc).mono ?_
    rintro e w13 ⟨pb, cb, ys, rfl, hy13, hb13⟩
    have hw13 := Lib.hid (Below.on hw12.out hb13)
    have hV13 := Lib.hid (Below.on hV12.out hb13)
    have hr13 := Lib.hid (hr12'.out.below hb13)
    have hx13 := Lib.hid (hx12.out.below hb13)
    have hz13 := hb13.size
    replace hy13 := Lib.hid hy13
    clear hb13
    go_wp2_with fail
    refine (sameall_at pa pb ls.length ca cb ls _ rfl (by unfold maxLen; omega) (fun i h => by have := HB.out i h; unfold maxLen; omega) hx13.out.rd.2 hy13.out.rd.2).mono ?_
    rintro e w14 ⟨rfl, hb14⟩
    have hw14 := Lib.hid (Below.on hw13.out hb14)
    have hV14 := Lib.hid (Below.on hV13.out hb14)
    have hr14 := Lib.hid (hr13.out.below hb14)
    have hx14 := Lib.hid (hx13.out.below hb14)
    have hz14 := hb14.size
    clear hb14
    go_wp2_with fail
    refine (kept_at g11 k11 q m d data _ hdl.out hm hk11 hr14.out (rQ.out.below hV14.out)).mono ?_
    rintro e w15 ⟨rfl, hb15⟩
    have hw15 := Lib.hid (Below.on hw14.out hb15)
    have hV15 := Lib.hid (Below.on hV14.out hb15)
    have hr15 := Lib.hid (hr14.out.below hb15)
    have hx15 := Lib.hid (hx14.out.below hb15)
    have hz15 := hb15.size
    clear hb15
    go_wp2_with fail
    refine (apart_at w11.heap.size (.slice pa ls.length ca) ls xs _ ls.length rfl hlsm HB.out hx15.out (by omega)).mono ?_
    rintro e w16 ⟨rfl, hb16⟩
    have hw16 : Hid (Below w.heap.size w w16) := Lib.hid (hw15.out.trans (hb16.mono hw11.out.size))
    have hq16 : Hid (RdB w16 q data) := Lib.hid fun j hj => by
      obtain ⟨b', o', e1, e2, e3⟩ := (rQ.out.below hV15.out) j hj
      obtain ⟨b2, o2, f1, f2, _⟩ := rQ.out j hj
      have hbb : b' = b2 := by rw [e1] at f1; injection f1 with f1; injection f1
      have hlt : b' < w11.heap.size := by rw [hbb]; exact Nat.lt_of_lt_of_le f2 hV11.out.size
      exact ⟨b', o', e1, Nat.lt_of_lt_of_le e2 hb16.size, (hb16.cell (p := ⟨b', o' + j, none⟩) hlt).trans e3⟩
    have hr16 : Hid (RdB w16 (some ⟨g11, 0, none⟩) (data ++ [161, 162, 163])) := Lib.hid fun j hj => by
      obtain ⟨b', o', e1, e2, e3⟩ := hr15.out j hj
      have hbb : b' = g11 := by injection e1 with e1; injection e1 with e1; exact e1.symm
      have hlt : b' < w11.heap.size := by rw [hbb]; exact hg11
      exact ⟨b', o', e1, Nat.lt_of_lt_of_le e2 hb16.size, (hb16.cell (p := ⟨b', o' + j, none⟩) hlt).trans e3⟩
    clear hb16
    go_wp2_with fail
    refine (kept_at g11 k11 q m d data _ hdl.out hm hk11 hr16.out hq16.out).mono ?_
    rintro e w17 ⟨rfl, hb17⟩
    replace hb17 := Lib.hid hb17
    go_wp2
    go_ret
    exact ⟨by simp, Below.on hw16.out hb17.out⟩
end Go.Proofs.YtfapaehjmbekpaaDoor
