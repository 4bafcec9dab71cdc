import Derived.Test.YtfapaehjmbekpaaDoorWLittle
namespace Go.Proofs.YtfapaehjmbekpaaDoor
open Go.RowKit
set_option linter.unusedSimpArgs false
set_option linter.unusedVariables false
theorem sizeL_ge : ∀ (ls : List (List Int)), 16 * ls.length ≤ sizeL ls
  | [] => by simp [sizeL]
  | x :: r => by
    have := sizeL_ge r
    simp only [sizeL, List.map_cons, List.sum_cons, List.length_cons] at this ⊢
    omega
theorem framesL_byt : ∀ (bs : List (List Int)) (n : Nat), (∀ b ∈ bs, Byt b) → (∀ b ∈ bs, b.length ≤ 60000) → n + bs.length < 4294967296 → Byt (framesL n bs)
  | [], n, _, _, _ => fun j hj => by simp [framesL] at hj
  | b :: r, n, hY, hs, hn => by
    have h1 := hY b (by simp)
    have h2 := hs b (by simp)
    have h3 := framesL_byt r (n + 1) (fun x hx => hY x (by simp [hx])) (fun x hx => hs x (by simp [hx])) (by simp at hn; omega)
    unfold framesL
    rw [frm_parts]
    exact ((signed_byt (frmP_byt (by simp at hn; omega) (by omega))).append (signed_byt h1)).append h3
theorem seg_byt {file base : Nat} {bs : List (List Int)} (hf : file < 18446744073709551616) (hb : base < 4294967296) (hY : ∀ b ∈ bs, Byt b) (hs : ∀ b ∈ bs, b.length ≤ 60000) (hn : bs.length < 4294967296) : Byt (seg file base bs) := by
  unfold seg
  rw [hdr_signed]
  exact (signed_byt (hdrP_byt hf hb)).append (framesL_byt bs 0 hY hs (by omega))
theorem scan_is (file : Nat) (X : Int) (p : Option Addr) (n c : Nat) (data : List Int) (w : World) (hX : X = (file : Nat)) (hl : data.length = n) (hm : n ≤ 10000000000) (hnc : n ≤ c) (hr : RdB w p data) (hY : Byt data) (hf : file < 18446744073709551616) (hT : Nib w) : Calls Tryd.prog 13 #[.int .u64 X, .slice p n c] w (ScanPost file data w) :=
  hX ▸ scan_at file p n c data w hl hm hnc hr hY hf hT
/-- What Scan tells, where it tells nothing. -/
theorem ScanPost.no {file : Nat} {data : List Int} {w w' : World} {e : Ending} (h : ScanPost file data w e w') (hn : scanR file data = none) : e = .returned (.tuple #[.int .i64 0, .slice none 0 0, .int .i64 0, .int .i64 167]) ∧ Below w.heap.size w w' := by
  rcases h with ⟨_, h⟩ | ⟨n, ls, v, xs, h1, _⟩
  · exact h
  · rw [hn] at h1; cases h1
theorem ScanPost.yes {file n : Nat} {ls : List (List Int)} {data : List Int} {w w' : World} {e : Ending} (h : ScanPost file data w e w') (hn : scanR file data = some (n, ls)) :
    ∃ p c, e = .returned (.tuple #[.int .i64 (n : Nat), .slice p ls.length c, .int .i64 (21 + sizeL ls : Nat), .int .i64 0]) ∧ RdRows w' p ls ∧ Below w.heap.size w w' := by
  rcases h with ⟨h1, _⟩ | ⟨n', ls', v, xs, h1, h2, h3, h4⟩
  · rw [hn] at h1; cases h1
  · rw [hn] at h1
    injection h1 with h1
    injection h1 with e1 e2
    subst e1 e2
    obtain ⟨p, c, rfl⟩ := h3.form
    exact ⟨p, c, h2, h3.rd.2, h4⟩
set_option maxRecDepth 100000 in
set_option maxHeartbeats 1600000 in
theorem reads_out (file base a : Int) (turn : Bool) (v : Value) (w : World) (hf0 : 0 ≤ file) (hf1 : file < 18446744073709551616) (h : file = 0 ∨ 4611686018427387904 < file ∨ base < 0 ∨ 64 < base) :
    Calls Tryd.prog 4 #[.int .u64 file, .int .i64 base, v, .int .i64 a, .bool turn] w fun e w' => e = .returned (.bool true) ∧ Below w.heap.size w w' := by
  by_cases h1 : file = 0
  · subst h1
    clear h
    go_enter Tryd.func4, Tryd.ntmps4
    go_wp2
    go_ret
    exact ⟨rfl, Below.refl _ _⟩
  · have h1' : (file == 0) = false := by simpa using h1
    have h1d : decide (file = 0) = false := decide_eq_false h1
    by_cases h2 : 4611686018427387904 < file
    · clear h h1
      go_enter Tryd.func4, Tryd.ntmps4
      go_wp2
      go_ret
      exact ⟨rfl, Below.refl _ _⟩
    · by_cases h3 : base < 0
      · clear h h1
        go_enter Tryd.func4, Tryd.ntmps4
        go_wp2
        go_ret
        exact ⟨rfl, Below.refl _ _⟩
      · have h4 : 64 < base := by omega
        clear h h1
        go_enter Tryd.func4, Tryd.ntmps4
        go_wp2
        go_ret
        exact ⟨rfl, Below.refl _ _⟩
theorem scan_turned {file base A j : Nat} {ls : List (List Int)} {y : Int} (h0 : file ≠ 0) (hf : file ≤ 4611686018427387904) (hb : base ≤ 64) (hs : ∀ b ∈ ls, b.length ≤ 60000) (hY : ∀ b ∈ ls, Byt b) (hn : ls.length ≤ 16777216) (hjl : j ≤ ls.length) (hjA : j = 0 ∨ 21 + sizeL (ls.take j) ≤ A) (hst : ∀ h : j < ls.length, A < 21 + sizeL (ls.take (j + 1)))
    (hy : 0 ≤ y ∧ y < 256) (hlt : A < (seg file base ls).length) (hne : y ≠ (seg file base ls)[A]) : scanR file ((seg file base ls).set A y) = if A < 21 ∨ j < base then none else some (base, ls.take j) := by
  by_cases hA : A < 21
  · rw [if_pos (.inl hA)]
    exact scanR_head (by omega) hb hA hy hlt hne
  · have hk : kept ls A j := ⟨hjl, by rcases hjA with rfl | h; (· simp [sizeL]; omega); exact h, hst⟩
    rw [scanR_turn h0 hf hb hs hY (by omega) (by omega) hk hy hlt hne]
    by_cases hj : j < base
    · rw [if_pos hj, if_pos (.inr hj)]
    · rw [if_neg hj, if_neg (by omega)]
theorem scan_cut {file base A j : Nat} {ls : List (List Int)} (h0 : file ≠ 0) (hf : file ≤ 4611686018427387904) (hb : base ≤ 64) (hs : ∀ b ∈ ls, b.length ≤ 60000) (hjl : j ≤ ls.length) (hjA : j = 0 ∨ 21 + sizeL (ls.take j) ≤ A) (hst : ∀ h : j < ls.length, A < 21 + sizeL (ls.take (j + 1)))
    (hlt : A < (seg file base ls).length) : scanR file ((seg file base ls).take A) = if A < 21 ∨ j < base then none else some (base, ls.take j) := by
  by_cases hA : A < 21
  · rw [if_pos (.inl hA)]
    exact scan_no (.inl (by rw [List.length_take]; omega))
  · have hk : kept ls A j := ⟨hjl, by rcases hjA with rfl | h; (· simp [sizeL]; omega); exact h, hst⟩
    rw [scanR_cut h0 hf hb hs (by omega) hk hlt]
    by_cases hj : j < base
    · rw [if_pos hj, if_pos (.inr hj)]
    · rw [if_neg hj, if_neg (by omega)]
set_option maxRecDepth 100000 in
theorem xor_all : ∀ m : Fin 8, ∀ x : Fin 256, 0 ≤ bits BinOp.xor IntKind.u8 (x.val : Int) ((2 : Int) ^ m.val % 256) ∧ bits BinOp.xor IntKind.u8 (x.val : Int) ((2 : Int) ^ m.val % 256) < 256 ∧ bits BinOp.xor IntKind.u8 (x.val : Int) ((2 : Int) ^ m.val % 256) ≠ (x.val : Int) := by decide +kernel
theorem xor_turn (x : Int) (m : Nat) (h0 : 0 ≤ x) (h1 : x < 256) (hm : m < 8) : 0 ≤ bits BinOp.xor IntKind.u8 x ((2 : Int) ^ m % 256) ∧ bits BinOp.xor IntKind.u8 x ((2 : Int) ^ m % 256) < 256 ∧ bits BinOp.xor IntKind.u8 x ((2 : Int) ^ m % 256) ≠ x := by
  obtain ⟨n, rfl⟩ : ∃ n : Nat, x = n := ⟨x.toNat, by omega⟩
  exact xor_all ⟨m, hm⟩ ⟨n, by omega⟩
set_option maxRecDepth 100000 in
set_option maxHeartbeats 3200000 in
theorem reads_in (file base : Nat) (a : Int) (turn : Bool) (p : Option Addr) (n c : Nat) (ls : List (List Int)) (w : World) (h0 : file ≠ 0) (hf : file ≤ 4611686018427387904) (hb : base ≤ 64) (ha1 : -9223372036854775808 ≤ a) (ha2 : a < 9223372036854775808) (hl : ls.length = n) (hn : n ≤ 8796093022208) (hnc : n ≤ c) (hY : ∀ b ∈ ls, Byt b) (hr : RdRows w p ls) (hT : Nib w) :
    Calls Tryd.prog 4 #[.int .u64 file, .int .i64 base, .slice p n c, .int .i64 a, .bool turn] w fun e w' => e = .returned (.bool true) ∧ Below w.heap.size w w' := by
  have h1 : ((file : Nat) : Int) ≠ 0 := by omega
  have h1' : (((file : Nat) : Int) == 0) = false := by simpa using h1
  have h1d : decide (((file : Nat) : Int) = 0) = false := decide_eq_false h1
  have hf' : ¬ (4611686018427387904 : Int) < (file : Nat) := by omega
  have hb1 : ¬ ((base : Nat) : Int) < 0 := by omega
  have hb2 : ¬ (64 : Int) < (base : Nat) := by omega
  clear h1
  have HL := Lib.hid hl
  have HR := Lib.hid hr
  have HY := Lib.hid hY
  have HT := Lib.hid hT
  replace h0 := Lib.hid h0
  clear hl hr hY hT
  go_enter Tryd.func4, Tryd.ntmps4
  go_wp2_with fail
  by_cases hs : ∀ b ∈ ls, b.length ≤ 60000
  · have HS := Lib.hid hs
    clear hs
    refine (little_ok w.heap.size n c p ls _ HL.out hn HS.out (by simp) (by simp) (HR.out.below (Below.alloc_ (Below.refl _ _) _))).mono ?_
    rintro e w1 ⟨rfl, rfl⟩
    by_cases hz : sizeL ls ≤ 268435392
    · have hZ := Lib.hid (decide_eq_true hz)
      rw [hZ.out]
      clear hZ
      have hge := sizeL_ge ls
      rw [HL.out] at hge
      have hn2 : n ≤ 16777216 := by omega
      have hb1 := Below.alloc_ (Below.refl w.heap.size w) (Obj.cells #[.int .i64 0, .int .u64 0, .int .i64 0, .slice none 0 0, .slice none 0 0, .slice p n c] 50)
      generalize w.alloc (Obj.cells #[.int .i64 0, .int .u64 0, .int .i64 0, .slice none 0 0, .slice none 0 0, .slice p n c] 50) = w1 at *
      have HR1 := Lib.hid (HR.out.below hb1)
      have HT1 := Lib.hid (HT.out.below (Nat.le_refl _) hb1)
      replace hb1 := Lib.hid hb1
      clear hge hn
      go_wp2
      go_loop [11] (fun i => ∃ k : Nat, k ≤ n ∧ i = .int .i64 k) (fun i => n - (intOf i).toNat)
      case atStart => exact ⟨0, Nat.zero_le _, rfl⟩
      case round =>
        obtain ⟨k, hk, rfl⟩ := hrel
        by_cases hlt : k < n
        · obtain ⟨b, o, x, cx, rfl, hbl, hc, _, _, _⟩ := HR1.out k (by rw [HL.out]; exact hlt)
          have hm := HS.out _ (List.getElem_mem (by rw [HL.out]; exact hlt : k < ls.length))
          generalize (ls[k]'(by rw [HL.out]; exact hlt)).length = m at *
          have hk0 : (0 : Int) ≤ (k : Int) := Int.natCast_nonneg _
          have hk1 : (k : Int) < (n : Int) := by omega
          have hbig' : ¬ (60000 : Int) < (m : Nat) := by omega
          go_wp2
          go_round
          case rel => exact ⟨k + 1, by omega, by go_num⟩
          case measure => simp [intOf]; omega
        · obtain rfl : k = n := by omega
          have hsl := seg_len file base ls
          have hsY := Lib.hid (seg_byt (file := file) (base := base) (bs := ls) (by omega) (by omega) HY.out HS.out (by rw [HL.out]; omega))
          have hS0 := Lib.hid (scanR_seg (file := file) (base := base) (bs := ls) h0.out hf hb HS.out)
          have hS1 := Lib.hid (scanR_other (file := file) (base := base) (bs := ls) hf)
          go_wp2_with fail
          refine (laid_at file base p k c ls _ h0.out hf hb HL.out HS.out HY.out (by omega) hn2 HR1.out HT1.out).mono ?_
          rintro e w2 ⟨v2, rfl, ho2, hb2⟩
          obtain ⟨q, cq, rfl, hq, hcq, hqz⟩ := ho2.form2
          obtain ⟨sl, hsl2⟩ : ∃ sl, sl = (seg file base ls).length := ⟨_, rfl⟩
          rw [← hsl2] at hsl hcq ⊢
          have hq2 := Lib.hid hq
          have hw2 := Lib.hid (Below.on hb1.out hb2)
          have HR2 := Lib.hid (HR1.out.below hb2)
          have HT2 := Lib.hid (HT1.out.below (Nat.le_refl _) hb2)
          clear ho2 hb2 hq hqz
          have hsl21 : ¬ ((sl : Nat) : Int) < 21 := by omega
          have hslb : sl ≤ 300000000 := by omega
          replace hsl2 := Lib.hid hsl2
          replace hsl := Lib.hid hsl
          go_wp2_with fail
          refine (lend_at q sl cq (seg file base ls) _ hsl2.out.symm (by omega) hq2.out).mono ?_
          rintro e w3 ⟨g3, cap3, rfl, hcap3, ho3, hb3⟩
          have hr3 := Lib.hid ((OwnB.rd ho3).2.left)
          have hw3 := Lib.hid (Below.on hw2.out hb3)
          have HT3 := Lib.hid (HT2.out.below (Nat.le_refl _) hb3)
          have HR3 := Lib.hid (HR2.out.below hb3)
          have hq3 := Lib.hid (hq2.out.below hb3)
          clear ho3 hb3
          go_wp2_with fail
          have SC := Lib.hid (scan_at file (some ⟨g3, 0, none⟩) sl cap3 (seg file base ls) w3 hsl2.out.symm (by omega) (by omega) hr3.out hsY.out (by omega) HT3.out)
          by_cases hkb : k < base
          · have SD := Lib.hid (SC.out.mono fun e w' h => ScanPost.no h (by rw [hS0.out, if_pos (by rw [HL.out]; exact hkb)]))
            refine SD.out.mono ?_
            rintro e w4 ⟨rfl, hb4⟩
            have hkb' : ((k : Nat) : Int) < (base : Nat) := by omega
            replace hb4 := Lib.hid hb4
            clear SC SD
            go_wp2
            go_ret
            exact ⟨by simp, Below.on hw3.out hb4.out⟩
          · have SD := Lib.hid (SC.out.mono fun e w' h => ScanPost.yes h (by rw [hS0.out, if_neg (by rw [HL.out]; exact hkb)]))
            refine SD.out.mono ?_
            rintro e w4 ⟨p4, c4, rfl, hr4, hb4⟩
            have hkb' : ¬ ((k : Nat) : Int) < (base : Nat) := by omega
            have hw4 := Lib.hid (Below.on hw3.out hb4)
            have HT4 := Lib.hid (HT3.out.below (Nat.le_refl _) hb4)
            have HR4 := Lib.hid (HR3.out.below hb4)
            have hq4 := Lib.hid (hq3.out.below hb4)
            replace hr4 := Lib.hid hr4
            clear SC SD hb4
            rw [HL.out, ← hsl.out]
            have hsm := Lib.hid (show ∀ i (h : i < ls.length), (ls[i]).length ≤ maxLen from fun i h => by have := HS.out _ (List.getElem_mem h); unfold maxLen; omega)
            go_wp2_with fail
            refine (sameall_at p4 p k c4 c ls _ HL.out (by unfold maxLen; omega) hsm.out hr4.out HR4.out).mono ?_
            rintro e w5 ⟨rfl, hb5⟩
            have hw5 := Lib.hid (Below.on hw4.out hb5)
            have HT5 := Lib.hid (HT4.out.below (Nat.le_refl _) hb5)
            have HR5 := Lib.hid (HR4.out.below hb5)
            have hq5 := Lib.hid (hq4.out.below hb5)
            clear hb5 HT1 HT2 HT3 HT4 HR1 HR2 HR3 HR4 hq2 hq3 hq4 hr3 hr4 hw3 hw4
            go_wp2_with fail
            refine (lend_at q sl cq (seg file base ls) _ hsl2.out.symm (by omega) hq5.out).mono ?_
            rintro e w6 ⟨g6, cap6, rfl, hcap6, ho6, hb6⟩
            have hr6 := Lib.hid ((OwnB.rd ho6).2.left)
            have hw6 := Lib.hid (Below.on hw5.out hb6)
            have HT6 := Lib.hid (HT5.out.below (Nat.le_refl _) hb6)
            have HR6 := Lib.hid (HR5.out.below hb6)
            have hq6 := Lib.hid (hq5.out.below hb6)
            clear ho6 hb6
            go_wp2_with fail
            refine ((scan_is (file + 1) _ (some ⟨g6, 0, none⟩) sl cap6 (seg file base ls) w6 (by simp) hsl2.out.symm (by omega) (by omega) hr6.out hsY.out (by omega) HT6.out).mono fun e w' h => ScanPost.no h hS1.out).mono ?_
            rintro e w7 ⟨rfl, hb7⟩
            have hw7 := Lib.hid (Below.on hw6.out hb7)
            have HT7 := Lib.hid (HT6.out.below (Nat.le_refl _) hb7)
            have HR7 := Lib.hid (HR6.out.below hb7)
            have hq7 := Lib.hid (hq6.out.below hb7)
            clear hb7 HT5 HT6 HR5 HR6 hq5 hq6 hr6 hw5 hw6
            by_cases ha : a < 0
            · go_wp2
              generalize hX : -((a + 1).tmod (sl : Int)) = X
              obtain ⟨A, rfl, hA⟩ : ∃ A : Nat, X = A ∧ A < sl := by
                have e : (a + 1).tmod (sl : Int) = -((-(a + 1)).tmod (sl : Int)) := by rw [Int.neg_tmod, Int.neg_neg]
                have h1 := Int.tmod_nonneg (sl : Int) (show 0 ≤ -(a + 1) by omega)
                have h2 := Int.tmod_lt_of_pos (-(a + 1)) (show (0 : Int) < (sl : Nat) by omega)
                exact ⟨X.toNat, by omega, by omega⟩
              clear hX
              go_loop [21, 22] (fun t i => ∃ j : Nat, j ≤ k ∧ i = .int .i64 j ∧ t = .int .i64 (21 + sizeL (ls.take j) : Nat) ∧ (j = 0 ∨ 21 + sizeL (ls.take j) ≤ A)) (fun _ i => k - (intOf i).toNat)
              case atStart => exact ⟨0, Nat.zero_le _, rfl, rfl, .inl rfl⟩
              case round =>
                obtain ⟨j, hj, rfl, rfl, hjA⟩ := hrel
                have hzk := sizeL_take_le ls j
                have HJA := Lib.hid hjA
                by_cases hjk : j < k
                · obtain ⟨b, o, x, cx, rfl, hbl, hc, _, _, _⟩ := HR7.out j (by rw [HL.out]; exact hjk)
                  have hst := Lib.hid (sizeL_take_succ (bs := ls) (k := j) (by rw [HL.out]; exact hjk))
                  have hzk2 := sizeL_take_le ls (j + 1)
                  rw [hst.out] at hzk2
                  generalize (ls[j]'(by rw [HL.out]; exact hjk)).length = m at *
                  generalize hze : sizeL (ls.take j) = z at *
                  replace hze := Lib.hid hze
                  have hj0 : (0 : Int) ≤ (j : Int) := Int.natCast_nonneg _
                  have hj1 : (j : Int) < (k : Int) := by omega
                  by_cases hle : 21 + z + m + 16 ≤ A
                  · have hle' : ((21 + z : Nat) : Int) + (m : Nat) + 16 ≤ (A : Nat) := by omega
                    go_wp2
                    go_round
                    case rel => exact ⟨j + 1, by omega, by go_num, by rw [hst.out]; exact congrArg (Value.int .i64) (by omega), .inr (by rw [hst.out]; omega)⟩
                    case measure => simp [intOf]; omega
                  · have hle' : ¬ ((21 + z : Nat) : Int) + (m : Nat) + 16 ≤ (A : Nat) := by omega
                    have HST : Hid (∀ h : j < ls.length, A < 21 + sizeL (ls.take (j + 1))) := Lib.hid fun _ => by rw [hst.out]; omega
                    clear hjA hst
                    go_wp2_with fail
                    refine (lend_at q sl cq (seg file base ls) _ hsl2.out.symm (by omega) hq7.out).mono ?_
                    rintro e w8 ⟨g8, cap8, rfl, hcap8, ho8, hb8⟩
                    have hr8 := Lib.hid ((OwnB.rd ho8).2.left)
                    have hw8 := Lib.hid (Below.on hw7.out hb8)
                    have HT8 := Lib.hid (HT7.out.below (Nat.le_refl _) hb8)
                    have HR8 := Lib.hid (HR7.out.below hb8)
                    have hs8 := Lib.hid (OwnB.short ho8)
                    clear ho8
                    have sg8 : w7.heap.size ≤ g8 ∧ g8 < w8.heap.size := hs8.out.lt g8 rfl
                    replace hb8 := Lib.hid hb8
                    cases turn with
                    | true =>
                      obtain ⟨x, hx⟩ : ∃ x, x = (seg file base ls)[A]'(by rw [← hsl2.out]; exact hA) := ⟨_, rfl⟩
                      have c8 : w8.cell? ⟨g8, A, none⟩ = some (.int .u8 x) := by
                        rw [World.ownsRow.cellAt hs8.out A (by rw [← hsl2.out]; omega), hx]
                        have hA' : A < (seg file base ls).length := by rw [← hsl2.out]; exact hA
                        simp [hA']
                      have f8 : w8.frozen? ⟨g8, A, none⟩ = false := World.ownsRow.frozenAt hs8.out A
                      have hxb := hsY.out A (by rw [← hsl2.out]; exact hA)
                      rw [← hx] at hxb
                      replace hx := Lib.hid hx
                      have hA0 : (0 : Int) ≤ (A : Int) := Int.natCast_nonneg _
                      have hA1 : (A : Int) < (sl : Int) := by omega
                      obtain ⟨hy1, hy2, hy3⟩ := xor_turn x (k % 8) hxb.1 hxb.2 (Nat.mod_lt _ (by omega))
                      go_wp2_with fail
                      generalize hyy : bits BinOp.xor IntKind.u8 x (2 ^ (k % 8) % 256) = y at *
                      have hs9 := (World.ownsRow.stored hs8.out A (.int .u8 y))
                      have hr9 : OwnB (w8.setCell ⟨g8, A, none⟩ (.int .u8 y)) w7.heap.size (.slice (some ⟨g8, 0, none⟩) ((seg file base ls).set A y).length cap8) ((seg file base ls).set A y) := by
                        unfold OwnB
                        rw [List.length_set, List.map_set]
                        exact hs9.1
                      have hw9 := Lib.hid (hw7.out.trans ((show Below w7.heap.size w7 (w8.setCell ⟨g8, A, none⟩ (.int .u8 y)) from (hb8.out.setCell (p := ⟨g8, A, none⟩) sg8.1 _)).mono hw7.out.size))
                      have HT9 := Lib.hid (HT.out.below (Nat.le_refl _) hw9.out)
                      have HR9 := Lib.hid (HR.out.below hw9.out)
                      have hq9 := Lib.hid ((OwnB.rd hr9).2)
                      have hY9 := Lib.hid (show Byt ((seg file base ls).set A y) from fun i hi => by
                        rw [List.getElem_set]
                        split
                        · exact ⟨hy1, hy2⟩
                        · exact hsY.out i (by simpa using hi))
                      have hS9 := Lib.hid (scan_turned (A := A) (j := j) (y := y) h0.out hf hb HS.out HY.out (by rw [HL.out]; exact hn2) (by rw [HL.out]; exact hj) (by rw [hze.out]; exact HJA.out) HST.out ⟨hy1, hy2⟩ (by rw [← hsl2.out]; exact hA) (by rw [← hx.out]; exact hy3))
                      have hl9 := Lib.hid (show ((seg file base ls).set A y).length = sl by rw [List.length_set, ← hsl2.out])
                      generalize (seg file base ls).set A y = D at *
                      generalize w8.setCell ⟨g8, A, none⟩ (.int .u8 y) = w9 at *
                      replace hyy := Lib.hid hyy
                      clear hs9 hr9 c8 f8 hy1 hy2 hy3 hx hxb hs8 sg8
                      by_cases hfail : A < 21 ∨ j < base
                      · refine ((scan_at file (some ⟨g8, 0, none⟩) sl cap8 D _ hl9.out (by omega) (by omega) hq9.out hY9.out (by omega) HT9.out).mono fun e w' h => ScanPost.no h (by rw [hS9.out, if_pos hfail])).mono ?_
                        rintro e w10 ⟨rfl, hb10⟩
                        replace hb10 := Lib.hid hb10
                        by_cases hA21 : A < 21
                        · have hA21' : (A : Int) < 21 := by omega
                          clear hfail
                          go_wp2
                          go_ret
                          exact ⟨by simp, Below.on hw9.out hb10.out⟩
                        · have hA21' : ¬ (A : Int) < 21 := by omega
                          have hjb' : ((j : Nat) : Int) < (base : Nat) := by omega
                          clear hfail
                          go_wp2
                          go_ret
                          exact ⟨by simp, Below.on hw9.out hb10.out⟩
                      · refine ((scan_at file (some ⟨g8, 0, none⟩) sl cap8 D _ hl9.out (by omega) (by omega) hq9.out hY9.out (by omega) HT9.out).mono fun e w' h => ScanPost.yes h (by rw [hS9.out, if_neg hfail])).mono ?_
                        rintro e w10 ⟨p10, c10, rfl, hr10, hb10⟩
                        have hA21' : ¬ (A : Int) < 21 := by omega
                        have hjb' : ¬ ((j : Nat) : Int) < (base : Nat) := by omega
                        have hjc : ((j : Nat) : Int) ≤ (c : Nat) := by omega
                        have hj0' : (0 : Int) ≤ ((j : Nat) : Int) := Int.natCast_nonneg _
                        have hlj := Lib.hid (show (ls.take j).length = j by rw [List.length_take, HL.out]; omega)
                        have HR10 := Lib.hid ((HR9.out.below hb10).take j)
                        replace hr10 := Lib.hid hr10
                        replace hb10 := Lib.hid hb10
                        rw [hlj.out, hze.out]
                        clear hfail
                        go_wp2_with fail
                        refine (sameall_at p10 _ j c10 c (ls.take j) _ hlj.out (by unfold maxLen; omega) (fun i h => by have := HS.out _ (List.mem_of_mem_take (List.getElem_mem h)); unfold maxLen; omega) hr10.out HR10.out).mono ?_
                        rintro e w11 ⟨rfl, hb11⟩
                        replace hb11 := Lib.hid hb11
                        go_wp2
                        go_ret
                        exact ⟨by simp, Below.on (Below.on hw9.out hb10.out) hb11.out⟩
                    | false =>
                      have hw9 := hw8
                      have HT9 := HT8
                      have HR9 := HR8
                      have hA0 : (0 : Int) ≤ (A : Int) := Int.natCast_nonneg _
                      have hA2 : (A : Int) ≤ (cap8 : Int) := by omega
                      have hq9 := Lib.hid (hr8.out.take A)
                      have hY9 := Lib.hid (hsY.out.take A)
                      have hS9 := Lib.hid (scan_cut (A := A) (j := j) h0.out hf hb HS.out (by rw [HL.out]; exact hj) (by rw [hze.out]; exact HJA.out) HST.out (by rw [← hsl2.out]; exact hA))
                      have hl9 := Lib.hid (show ((seg file base ls).take A).length = A by rw [List.length_take, ← hsl2.out]; omega)
                      generalize (seg file base ls).take A = D at *
                      go_wp2_with fail
                      by_cases hfail : A < 21 ∨ j < base
                      · refine ((scan_at file (some ⟨g8, 0, none⟩) A cap8 D _ hl9.out (by omega) (by omega) hq9.out hY9.out (by omega) HT9.out).mono fun e w' h => ScanPost.no h (by rw [hS9.out, if_pos hfail])).mono ?_
                        rintro e w10 ⟨rfl, hb10⟩
                        replace hb10 := Lib.hid hb10
                        by_cases hA21 : A < 21
                        · have hA21' : (A : Int) < 21 := by omega
                          clear hfail
                          go_wp2
                          go_ret
                          exact ⟨by simp, Below.on hw9.out hb10.out⟩
                        · have hA21' : ¬ (A : Int) < 21 := by omega
                          have hjb' : ((j : Nat) : Int) < (base : Nat) := by omega
                          clear hfail
                          go_wp2
                          go_ret
                          exact ⟨by simp, Below.on hw9.out hb10.out⟩
                      · refine ((scan_at file (some ⟨g8, 0, none⟩) A cap8 D _ hl9.out (by omega) (by omega) hq9.out hY9.out (by omega) HT9.out).mono fun e w' h => ScanPost.yes h (by rw [hS9.out, if_neg hfail])).mono ?_
                        rintro e w10 ⟨p10, c10, rfl, hr10, hb10⟩
                        have hA21' : ¬ (A : Int) < 21 := by omega
                        have hjb' : ¬ ((j : Nat) : Int) < (base : Nat) := by omega
                        have hjc : ((j : Nat) : Int) ≤ (c : Nat) := by omega
                        have hj0' : (0 : Int) ≤ ((j : Nat) : Int) := Int.natCast_nonneg _
                        have hlj := Lib.hid (show (ls.take j).length = j by rw [List.length_take, HL.out]; omega)
                        have HR10 := Lib.hid ((HR9.out.below hb10).take j)
                        replace hr10 := Lib.hid hr10
                        replace hb10 := Lib.hid hb10
                        rw [hlj.out, hze.out]
                        clear hfail
                        go_wp2_with fail
                        refine (sameall_at p10 _ j c10 c (ls.take j) _ hlj.out (by unfold maxLen; omega) (fun i h => by have := HS.out _ (List.mem_of_mem_take (List.getElem_mem h)); unfold maxLen; omega) hr10.out HR10.out).mono ?_
                        rintro e w11 ⟨rfl, hb11⟩
                        replace hb11 := Lib.hid hb11
                        go_wp2
                        go_ret
                        exact ⟨by simp, Below.on (Below.on hw9.out hb10.out) hb11.out⟩
                · have hjk' : ¬ ((j : Nat) : Int) < (k : Nat) := by omega
                  have HST : Hid (∀ h : j < ls.length, A < 21 + sizeL (ls.take (j + 1))) := Lib.hid fun h => by rw [HL.out] at h; omega
                  generalize hze : sizeL (ls.take j) = z at *
                  replace hze := Lib.hid hze
                  clear hjA
                  go_wp2_with fail
                  refine (lend_at q sl cq (seg file base ls) _ hsl2.out.symm (by omega) hq7.out).mono ?_
                  rintro e w8 ⟨g8, cap8, rfl, hcap8, ho8, hb8⟩
                  have hr8 := Lib.hid ((OwnB.rd ho8).2.left)
                  have hw8 := Lib.hid (Below.on hw7.out hb8)
                  have HT8 := Lib.hid (HT7.out.below (Nat.le_refl _) hb8)
                  have HR8 := Lib.hid (HR7.out.below hb8)
                  have hs8 := Lib.hid (OwnB.short ho8)
                  clear ho8
                  have sg8 : w7.heap.size ≤ g8 ∧ g8 < w8.heap.size := hs8.out.lt g8 rfl
                  replace hb8 := Lib.hid hb8
                  cases turn with
                  | true =>
                    obtain ⟨x, hx⟩ : ∃ x, x = (seg file base ls)[A]'(by rw [← hsl2.out]; exact hA) := ⟨_, rfl⟩
                    have c8 : w8.cell? ⟨g8, A, none⟩ = some (.int .u8 x) := by
                      rw [World.ownsRow.cellAt hs8.out A (by rw [← hsl2.out]; omega), hx]
                      have hA' : A < (seg file base ls).length := by rw [← hsl2.out]; exact hA
                      simp [hA']
                    have f8 : w8.frozen? ⟨g8, A, none⟩ = false := World.ownsRow.frozenAt hs8.out A
                    have hxb := hsY.out A (by rw [← hsl2.out]; exact hA)
                    rw [← hx] at hxb
                    replace hx := Lib.hid hx
                    have hA0 : (0 : Int) ≤ (A : Int) := Int.natCast_nonneg _
                    have hA1 : (A : Int) < (sl : Int) := by omega
                    obtain ⟨hy1, hy2, hy3⟩ := xor_turn x (k % 8) hxb.1 hxb.2 (Nat.mod_lt _ (by omega))
                    go_wp2_with fail
                    generalize hyy : bits BinOp.xor IntKind.u8 x (2 ^ (k % 8) % 256) = y at *
                    have hs9 := (World.ownsRow.stored hs8.out A (.int .u8 y))
                    have hr9 : OwnB (w8.setCell ⟨g8, A, none⟩ (.int .u8 y)) w7.heap.size (.slice (some ⟨g8, 0, none⟩) ((seg file base ls).set A y).length cap8) ((seg file base ls).set A y) := by
                      unfold OwnB
                      rw [List.length_set, List.map_set]
                      exact hs9.1
                    have hw9 := Lib.hid (hw7.out.trans ((show Below w7.heap.size w7 (w8.setCell ⟨g8, A, none⟩ (.int .u8 y)) from (hb8.out.setCell (p := ⟨g8, A, none⟩) sg8.1 _)).mono hw7.out.size))
                    have HT9 := Lib.hid (HT.out.below (Nat.le_refl _) hw9.out)
                    have HR9 := Lib.hid (HR.out.below hw9.out)
                    have hq9 := Lib.hid ((OwnB.rd hr9).2)
                    have hY9 := Lib.hid (show Byt ((seg file base ls).set A y) from fun i hi => by
                      rw [List.getElem_set]
                      split
                      · exact ⟨hy1, hy2⟩
                      · exact hsY.out i (by simpa using hi))
                    have hS9 := Lib.hid (scan_turned (A := A) (j := j) (y := y) h0.out hf hb HS.out HY.out (by rw [HL.out]; exact hn2) (by rw [HL.out]; exact hj) (by rw [hze.out]; exact HJA.out) HST.out ⟨hy1, hy2⟩ (by rw [← hsl2.out]; exact hA) (by rw [← hx.out]; exact hy3))
                    have hl9 := Lib.hid (show ((seg file base ls).set A y).length = sl by rw [List.length_set, ← hsl2.out])
                    generalize (seg file base ls).set A y = D at *
                    generalize w8.setCell ⟨g8, A, none⟩ (.int .u8 y) = w9 at *
                    replace hyy := Lib.hid hyy
                    clear hs9 hr9 c8 f8 hy1 hy2 hy3 hx hxb hs8 sg8
                    by_cases hfail : A < 21 ∨ j < base
                    · refine ((scan_at file (some ⟨g8, 0, none⟩) sl cap8 D _ hl9.out (by omega) (by omega) hq9.out hY9.out (by omega) HT9.out).mono fun e w' h => ScanPost.no h (by rw [hS9.out, if_pos hfail])).mono ?_
                      rintro e w10 ⟨rfl, hb10⟩
                      replace hb10 := Lib.hid hb10
                      by_cases hA21 : A < 21
                      · have hA21' : (A : Int) < 21 := by omega
                        clear hfail
                        go_wp2
                        go_ret
                        exact ⟨by simp, Below.on hw9.out hb10.out⟩
                      · have hA21' : ¬ (A : Int) < 21 := by omega
                        have hjb' : ((j : Nat) : Int) < (base : Nat) := by omega
                        clear hfail
                        go_wp2
                        go_ret
                        exact ⟨by simp, Below.on hw9.out hb10.out⟩
                    · refine ((scan_at file (some ⟨g8, 0, none⟩) sl cap8 D _ hl9.out (by omega) (by omega) hq9.out hY9.out (by omega) HT9.out).mono fun e w' h => ScanPost.yes h (by rw [hS9.out, if_neg hfail])).mono ?_
                      rintro e w10 ⟨p10, c10, rfl, hr10, hb10⟩
                      have hA21' : ¬ (A : Int) < 21 := by omega
                      have hjb' : ¬ ((j : Nat) : Int) < (base : Nat) := by omega
                      have hjc : ((j : Nat) : Int) ≤ (c : Nat) := by omega
                      have hj0' : (0 : Int) ≤ ((j : Nat) : Int) := Int.natCast_nonneg _
                      have hlj := Lib.hid (show (ls.take j).length = j by rw [List.length_take, HL.out]; omega)
                      have HR10 := Lib.hid ((HR9.out.below hb10).take j)
                      replace hr10 := Lib.hid hr10
                      replace hb10 := Lib.hid hb10
                      rw [hlj.out, hze.out]
                      clear hfail
                      go_wp2_with fail
                      refine (sameall_at p10 _ j c10 c (ls.take j) _ hlj.out (by unfold maxLen; omega) (fun i h => by have := HS.out _ (List.mem_of_mem_take (List.getElem_mem h)); unfold maxLen; omega) hr10.out HR10.out).mono ?_
                      rintro e w11 ⟨rfl, hb11⟩
                      replace hb11 := Lib.hid hb11
                      go_wp2
                      go_ret
                      exact ⟨by simp, Below.on (Below.on hw9.out hb10.out) hb11.out⟩
                  | false =>
                    have hw9 := hw8
                    have HT9 := HT8
                    have HR9 := HR8
                    have hA0 : (0 : Int) ≤ (A : Int) := Int.natCast_nonneg _
                    have hA2 : (A : Int) ≤ (cap8 : Int) := by omega
                    have hq9 := Lib.hid (hr8.out.take A)
                    have hY9 := Lib.hid (hsY.out.take A)
                    have hS9 := Lib.hid (scan_cut (A := A) (j := j) h0.out hf hb HS.out (by rw [HL.out]; exact hj) (by rw [hze.out]; exact HJA.out) HST.out (by rw [← hsl2.out]; exact hA))
                    have hl9 := Lib.hid (show ((seg file base ls).take A).length = A by rw [List.length_take, ← hsl2.out]; omega)
                    generalize (seg file base ls).take A = D at *
                    go_wp2_with fail
                    by_cases hfail : A < 21 ∨ j < base
                    · refine ((scan_at file (some ⟨g8, 0, none⟩) A cap8 D _ hl9.out (by omega) (by omega) hq9.out hY9.out (by omega) HT9.out).mono fun e w' h => ScanPost.no h (by rw [hS9.out, if_pos hfail])).mono ?_
                      rintro e w10 ⟨rfl, hb10⟩
                      replace hb10 := Lib.hid hb10
                      by_cases hA21 : A < 21
                      · have hA21' : (A : Int) < 21 := by omega
                        clear hfail
                        go_wp2
                        go_ret
                        exact ⟨by simp, Below.on hw9.out hb10.out⟩
                      · have hA21' : ¬ (A : Int) < 21 := by omega
                        have hjb' : ((j : Nat) : Int) < (base : Nat) := by omega
                        clear hfail
                        go_wp2
                        go_ret
                        exact ⟨by simp, Below.on hw9.out hb10.out⟩
                    · refine ((scan_at file (some ⟨g8, 0, none⟩) A cap8 D _ hl9.out (by omega) (by omega) hq9.out hY9.out (by omega) HT9.out).mono fun e w' h => ScanPost.yes h (by rw [hS9.out, if_neg hfail])).mono ?_
                      rintro e w10 ⟨p10, c10, rfl, hr10, hb10⟩
                      have hA21' : ¬ (A : Int) < 21 := by omega
                      have hjb' : ¬ ((j : Nat) : Int) < (base : Nat) := by omega
                      have hjc : ((j : Nat) : Int) ≤ (c : Nat) := by omega
                      have hj0' : (0 : Int) ≤ ((j : Nat) : Int) := Int.natCast_nonneg _
                      have hlj := Lib.hid (show (ls.take j).length = j by rw [List.length_take, HL.out]; omega)
                      have HR10 := Lib.hid ((HR9.out.below hb10).take j)
                      replace hr10 := Lib.hid hr10
                      replace hb10 := Lib.hid hb10
                      rw [hlj.out, hze.out]
                      clear hfail
                      go_wp2_with fail
                      refine (sameall_at p10 _ j c10 c (ls.take j) _ hlj.out (by unfold maxLen; omega) (fun i h => by have := HS.out _ (List.mem_of_mem_take (List.getElem_mem h)); unfold maxLen; omega) hr10.out HR10.out).mono ?_
                      rintro e w11 ⟨rfl, hb11⟩
                      replace hb11 := Lib.hid hb11
                      go_wp2
                      go_ret
                      exact ⟨by simp, Below.on (Below.on hw9.out hb10.out) hb11.out⟩
            · have ha' : 0 ≤ a := by omega
              go_wp2
              generalize hX : a % (sl : Int) = X
              obtain ⟨A, rfl, hA⟩ : ∃ A : Nat, X = A ∧ A < sl := by
                have h1 := Int.emod_nonneg a (show (sl : Int) ≠ 0 by omega)
                have h2 := Int.emod_lt_of_pos a (show (0 : Int) < (sl : Nat) by omega)
                exact ⟨X.toNat, by omega, by omega⟩
              clear hX
              go_loop [21, 22] (fun t i => ∃ j : Nat, j ≤ k ∧ i = .int .i64 j ∧ t = .int .i64 (21 + sizeL (ls.take j) : Nat) ∧ (j = 0 ∨ 21 + sizeL (ls.take j) ≤ A)) (fun _ i => k - (intOf i).toNat)
              case atStart => exact ⟨0, Nat.zero_le _, rfl, rfl, .inl rfl⟩
              case round =>
                obtain ⟨j, hj, rfl, rfl, hjA⟩ := hrel
                have hzk := sizeL_take_le ls j
                have HJA := Lib.hid hjA
                by_cases hjk : j < k
                · obtain ⟨b, o, x, cx, rfl, hbl, hc, _, _, _⟩ := HR7.out j (by rw [HL.out]; exact hjk)
                  have hst := Lib.hid (sizeL_take_succ (bs := ls) (k := j) (by rw [HL.out]; exact hjk))
                  have hzk2 := sizeL_take_le ls (j + 1)
                  rw [hst.out] at hzk2
                  generalize (ls[j]'(by rw [HL.out]; exact hjk)).length = m at *
                  generalize hze : sizeL (ls.take j) = z at *
                  replace hze := Lib.hid hze
                  have hj0 : (0 : Int) ≤ (j : Int) := Int.natCast_nonneg _
                  have hj1 : (j : Int) < (k : Int) := by omega
                  by_cases hle : 21 + z + m + 16 ≤ A
                  · have hle' : ((21 + z : Nat) : Int) + (m : Nat) + 16 ≤ (A : Nat) := by omega
                    go_wp2
                    go_round
                    case rel => exact ⟨j + 1, by omega, by go_num, by rw [hst.out]; exact congrArg (Value.int .i64) (by omega), .inr (by rw [hst.out]; omega)⟩
                    case measure => simp [intOf]; omega
                  · have hle' : ¬ ((21 + z : Nat) : Int) + (m : Nat) + 16 ≤ (A : Nat) := by omega
                    have HST : Hid (∀ h : j < ls.length, A < 21 + sizeL (ls.take (j + 1))) := Lib.hid fun _ => by rw [hst.out]; omega
                    clear hjA hst
                    go_wp2_with fail
                    refine (lend_at q sl cq (seg file base ls) _ hsl2.out.symm (by omega) hq7.out).mono ?_
                    rintro e w8 ⟨g8, cap8, rfl, hcap8, ho8, hb8⟩
                    have hr8 := Lib.hid ((OwnB.rd ho8).2.left)
                    have hw8 := Lib.hid (Below.on hw7.out hb8)
                    have HT8 := Lib.hid (HT7.out.below (Nat.le_refl _) hb8)
                    have HR8 := Lib.hid (HR7.out.below hb8)
                    have hs8 := Lib.hid (OwnB.short ho8)
                    clear ho8
                    have sg8 : w7.heap.size ≤ g8 ∧ g8 < w8.heap.size := hs8.out.lt g8 rfl
                    replace hb8 := Lib.hid hb8
                    cases turn with
                    | true =>
                      obtain ⟨x, hx⟩ : ∃ x, x = (seg file base ls)[A]'(by rw [← hsl2.out]; exact hA) := ⟨_, rfl⟩
                      have c8 : w8.cell? ⟨g8, A, none⟩ = some (.int .u8 x) := by
                        rw [World.ownsRow.cellAt hs8.out A (by rw [← hsl2.out]; omega), hx]
                        have hA' : A < (seg file base ls).length := by rw [← hsl2.out]; exact hA
                        simp [hA']
                      have f8 : w8.frozen? ⟨g8, A, none⟩ = false := World.ownsRow.frozenAt hs8.out A
                      have hxb := hsY.out A (by rw [← hsl2.out]; exact hA)
                      rw [← hx] at hxb
                      replace hx := Lib.hid hx
                      have hA0 : (0 : Int) ≤ (A : Int) := Int.natCast_nonneg _
                      have hA1 : (A : Int) < (sl : Int) := by omega
                      obtain ⟨hy1, hy2, hy3⟩ := xor_turn x (k % 8) hxb.1 hxb.2 (Nat.mod_lt _ (by omega))
                      go_wp2_with fail
                      generalize hyy : bits BinOp.xor IntKind.u8 x (2 ^ (k % 8) % 256) = y at *
                      have hs9 := (World.ownsRow.stored hs8.out A (.int .u8 y))
                      have hr9 : OwnB (w8.setCell ⟨g8, A, none⟩ (.int .u8 y)) w7.heap.size (.slice (some ⟨g8, 0, none⟩) ((seg file base ls).set A y).length cap8) ((seg file base ls).set A y) := by
                        unfold OwnB
                        rw [List.length_set, List.map_set]
                        exact hs9.1
                      have hw9 := Lib.hid (hw7.out.trans ((show Below w7.heap.size w7 (w8.setCell ⟨g8, A, none⟩ (.int .u8 y)) from (hb8.out.setCell (p := ⟨g8, A, none⟩) sg8.1 _)).mono hw7.out.size))
                      have HT9 := Lib.hid (HT.out.below (Nat.le_refl _) hw9.out)
                      have HR9 := Lib.hid (HR.out.below hw9.out)
                      have hq9 := Lib.hid ((OwnB.rd hr9).2)
                      have hY9 := Lib.hid (show Byt ((seg file base ls).set A y) from fun i hi => by
                        rw [List.getElem_set]
                        split
                        · exact ⟨hy1, hy2⟩
                        · exact hsY.out i (by simpa using hi))
                      have hS9 := Lib.hid (scan_turned (A := A) (j := j) (y := y) h0.out hf hb HS.out HY.out (by rw [HL.out]; exact hn2) (by rw [HL.out]; exact hj) (by rw [hze.out]; exact HJA.out) HST.out ⟨hy1, hy2⟩ (by rw [← hsl2.out]; exact hA) (by rw [← hx.out]; exact hy3))
                      have hl9 := Lib.hid (show ((seg file base ls).set A y).length = sl by rw [List.length_set, ← hsl2.out])
                      generalize (seg file base ls).set A y = D at *
                      generalize w8.setCell ⟨g8, A, none⟩ (.int .u8 y) = w9 at *
                      replace hyy := Lib.hid hyy
                      clear hs9 hr9 c8 f8 hy1 hy2 hy3 hx hxb hs8 sg8
                      by_cases hfail : A < 21 ∨ j < base
                      · refine ((scan_at file (some ⟨g8, 0, none⟩) sl cap8 D _ hl9.out (by omega) (by omega) hq9.out hY9.out (by omega) HT9.out).mono fun e w' h => ScanPost.no h (by rw [hS9.out, if_pos hfail])).mono ?_
                        rintro e w10 ⟨rfl, hb10⟩
                        replace hb10 := Lib.hid hb10
                        by_cases hA21 : A < 21
                        · have hA21' : (A : Int) < 21 := by omega
                          clear hfail
                          go_wp2
                          go_ret
                          exact ⟨by simp, Below.on hw9.out hb10.out⟩
                        · have hA21' : ¬ (A : Int) < 21 := by omega
                          have hjb' : ((j : Nat) : Int) < (base : Nat) := by omega
                          clear hfail
                          go_wp2
                          go_ret
                          exact ⟨by simp, Below.on hw9.out hb10.out⟩
                      · refine ((scan_at file (some ⟨g8, 0, none⟩) sl cap8 D _ hl9.out (by omega) (by omega) hq9.out hY9.out (by omega) HT9.out).mono fun e w' h => ScanPost.yes h (by rw [hS9.out, if_neg hfail])).mono ?_
                        rintro e w10 ⟨p10, c10, rfl, hr10, hb10⟩
                        have hA21' : ¬ (A : Int) < 21 := by omega
                        have hjb' : ¬ ((j : Nat) : Int) < (base : Nat) := by omega
                        have hjc : ((j : Nat) : Int) ≤ (c : Nat) := by omega
                        have hj0' : (0 : Int) ≤ ((j : Nat) : Int) := Int.natCast_nonneg _
                        have hlj := Lib.hid (show (ls.take j).length = j by rw [List.length_take, HL.out]; omega)
                        have HR10 := Lib.hid ((HR9.out.below hb10).take j)
                        replace hr10 := Lib.hid hr10
                        replace hb10 := Lib.hid hb10
                        rw [hlj.out, hze.out]
                        clear hfail
                        go_wp2_with fail
                        refine (sameall_at p10 _ j c10 c (ls.take j) _ hlj.out (by unfold maxLen; omega) (fun i h => by have := HS.out _ (List.mem_of_mem_take (List.getElem_mem h)); unfold maxLen; omega) hr10.out HR10.out).mono ?_
                        rintro e w11 ⟨rfl, hb11⟩
                        replace hb11 := Lib.hid hb11
                        go_wp2
                        go_ret
                        exact ⟨by simp, Below.on (Below.on hw9.out hb10.out) hb11.out⟩
                    | false =>
                      have hw9 := hw8
                      have HT9 := HT8
                      have HR9 := HR8
                      have hA0 : (0 : Int) ≤ (A : Int) := Int.natCast_nonneg _
                      have hA2 : (A : Int) ≤ (cap8 : Int) := by omega
                      have hq9 := Lib.hid (hr8.out.take A)
                      have hY9 := Lib.hid (hsY.out.take A)
                      have hS9 := Lib.hid (scan_cut (A := A) (j := j) h0.out hf hb HS.out (by rw [HL.out]; exact hj) (by rw [hze.out]; exact HJA.out) HST.out (by rw [← hsl2.out]; exact hA))
                      have hl9 := Lib.hid (show ((seg file base ls).take A).length = A by rw [List.length_take, ← hsl2.out]; omega)
                      generalize (seg file base ls).take A = D at *
                      go_wp2_with fail
                      by_cases hfail : A < 21 ∨ j < base
                      · refine ((scan_at file (some ⟨g8, 0, none⟩) A cap8 D _ hl9.out (by omega) (by omega) hq9.out hY9.out (by omega) HT9.out).mono fun e w' h => ScanPost.no h (by rw [hS9.out, if_pos hfail])).mono ?_
                        rintro e w10 ⟨rfl, hb10⟩
                        replace hb10 := Lib.hid hb10
                        by_cases hA21 : A < 21
                        · have hA21' : (A : Int) < 21 := by omega
                          clear hfail
                          go_wp2
                          go_ret
                          exact ⟨by simp, Below.on hw9.out hb10.out⟩
                        · have hA21' : ¬ (A : Int) < 21 := by omega
                          have hjb' : ((j : Nat) : Int) < (base : Nat) := by omega
                          clear hfail
                          go_wp2
                          go_ret
                          exact ⟨by simp, Below.on hw9.out hb10.out⟩
                      · refine ((scan_at file (some ⟨g8, 0, none⟩) A cap8 D _ hl9.out (by omega) (by omega) hq9.out hY9.out (by omega) HT9.out).mono fun e w' h => ScanPost.yes h (by rw [hS9.out, if_neg hfail])).mono ?_
                        rintro e w10 ⟨p10, c10, rfl, hr10, hb10⟩
                        have hA21' : ¬ (A : Int) < 21 := by omega
                        have hjb' : ¬ ((j : Nat) : Int) < (base : Nat) := by omega
                        have hjc : ((j : Nat) : Int) ≤ (c : Nat) := by omega
                        have hj0' : (0 : Int) ≤ ((j : Nat) : Int) := Int.natCast_nonneg _
                        have hlj := Lib.hid (show (ls.take j).length = j by rw [List.length_take, HL.out]; omega)
                        have HR10 := Lib.hid ((HR9.out.below hb10).take j)
                        replace hr10 := Lib.hid hr10
                        replace hb10 := Lib.hid hb10
                        rw [hlj.out, hze.out]
                        clear hfail
                        go_wp2_with fail
                        refine (sameall_at p10 _ j c10 c (ls.take j) _ hlj.out (by unfold maxLen; omega) (fun i h => by have := HS.out _ (List.mem_of_mem_take (List.getElem_mem h)); unfold maxLen; omega) hr10.out HR10.out).mono ?_
                        rintro e w11 ⟨rfl, hb11⟩
                        replace hb11 := Lib.hid hb11
                        go_wp2
                        go_ret
                        exact ⟨by simp, Below.on (Below.on hw9.out hb10.out) hb11.out⟩
                · have hjk' : ¬ ((j : Nat) : Int) < (k : Nat) := by omega
                  have HST : Hid (∀ h : j < ls.length, A < 21 + sizeL (ls.take (j + 1))) := Lib.hid fun h => by rw [HL.out] at h; omega
                  generalize hze : sizeL (ls.take j) = z at *
                  replace hze := Lib.hid hze
                  clear hjA
                  go_wp2_with fail
                  refine (lend_at q sl cq (seg file base ls) _ hsl2.out.symm (by omega) hq7.out).mono ?_
                  rintro e w8 ⟨g8, cap8, rfl, hcap8, ho8, hb8⟩
                  have hr8 := Lib.hid ((OwnB.rd ho8).2.left)
                  have hw8 := Lib.hid (Below.on hw7.out hb8)
                  have HT8 := Lib.hid (HT7.out.below (Nat.le_refl _) hb8)
                  have HR8 := Lib.hid (HR7.out.below hb8)
                  have hs8 := Lib.hid (OwnB.short ho8)
                  clear ho8
                  have sg8 : w7.heap.size ≤ g8 ∧ g8 < w8.heap.size := hs8.out.lt g8 rfl
                  replace hb8 := Lib.hid hb8
                  cases turn with
                  | true =>
                    obtain ⟨x, hx⟩ : ∃ x, x = (seg file base ls)[A]'(by rw [← hsl2.out]; exact hA) := ⟨_, rfl⟩
                    have c8 : w8.cell? ⟨g8, A, none⟩ = some (.int .u8 x) := by
                      rw [World.ownsRow.cellAt hs8.out A (by rw [← hsl2.out]; omega), hx]
                      have hA' : A < (seg file base ls).length := by rw [← hsl2.out]; exact hA
                      simp [hA']
                    have f8 : w8.frozen? ⟨g8, A, none⟩ = false := World.ownsRow.frozenAt hs8.out A
                    have hxb := hsY.out A (by rw [← hsl2.out]; exact hA)
                    rw [← hx] at hxb
                    replace hx := Lib.hid hx
                    have hA0 : (0 : Int) ≤ (A : Int) := Int.natCast_nonneg _
                    have hA1 : (A : Int) < (sl : Int) := by omega
                    obtain ⟨hy1, hy2, hy3⟩ := xor_turn x (k % 8) hxb.1 hxb.2 (Nat.mod_lt _ (by omega))
                    go_wp2_with fail
                    generalize hyy : bits BinOp.xor IntKind.u8 x (2 ^ (k % 8) % 256) = y at *
                    have hs9 := (World.ownsRow.stored hs8.out A (.int .u8 y))
                    have hr9 : OwnB (w8.setCell ⟨g8, A, none⟩ (.int .u8 y)) w7.heap.size (.slice (some ⟨g8, 0, none⟩) ((seg file base ls).set A y).length cap8) ((seg file base ls).set A y) := by
                      unfold OwnB
                      rw [List.length_set, List.map_set]
                      exact hs9.1
                    have hw9 := Lib.hid (hw7.out.trans ((show Below w7.heap.size w7 (w8.setCell ⟨g8, A, none⟩ (.int .u8 y)) from (hb8.out.setCell (p := ⟨g8, A, none⟩) sg8.1 _)).mono hw7.out.size))
                    have HT9 := Lib.hid (HT.out.below (Nat.le_refl _) hw9.out)
                    have HR9 := Lib.hid (HR.out.below hw9.out)
                    have hq9 := Lib.hid ((OwnB.rd hr9).2)
                    have hY9 := Lib.hid (show Byt ((seg file base ls).set A y) from fun i hi => by
                      rw [List.getElem_set]
                      split
                      · exact ⟨hy1, hy2⟩
                      · exact hsY.out i (by simpa using hi))
                    have hS9 := Lib.hid (scan_turned (A := A) (j := j) (y := y) h0.out hf hb HS.out HY.out (by rw [HL.out]; exact hn2) (by rw [HL.out]; exact hj) (by rw [hze.out]; exact HJA.out) HST.out ⟨hy1, hy2⟩ (by rw [← hsl2.out]; exact hA) (by rw [← hx.out]; exact hy3))
                    have hl9 := Lib.hid (show ((seg file base ls).set A y).length = sl by rw [List.length_set, ← hsl2.out])
                    generalize (seg file base ls).set A y = D at *
                    generalize w8.setCell ⟨g8, A, none⟩ (.int .u8 y) = w9 at *
                    replace hyy := Lib.hid hyy
                    clear hs9 hr9 c8 f8 hy1 hy2 hy3 hx hxb hs8 sg8
                    by_cases hfail : A < 21 ∨ j < base
                    · refine ((scan_at file (some ⟨g8, 0, none⟩) sl cap8 D _ hl9.out (by omega) (by omega) hq9.out hY9.out (by omega) HT9.out).mono fun e w' h => ScanPost.no h (by rw [hS9.out, if_pos hfail])).mono ?_
                      rintro e w10 ⟨rfl, hb10⟩
                      replace hb10 := Lib.hid hb10
                      by_cases hA21 : A < 21
                      · have hA21' : (A : Int) < 21 := by omega
                        clear hfail
                        go_wp2
                        go_ret
                        exact ⟨by simp, Below.on hw9.out hb10.out⟩
                      · have hA21' : ¬ (A : Int) < 21 := by omega
                        have hjb' : ((j : Nat) : Int) < (base : Nat) := by omega
                        clear hfail
                        go_wp2
                        go_ret
                        exact ⟨by simp, Below.on hw9.out hb10.out⟩
                    · refine ((scan_at file (some ⟨g8, 0, none⟩) sl cap8 D _ hl9.out (by omega) (by omega) hq9.out hY9.out (by omega) HT9.out).mono fun e w' h => ScanPost.yes h (by rw [hS9.out, if_neg hfail])).mono ?_
                      rintro e w10 ⟨p10, c10, rfl, hr10, hb10⟩
                      have hA21' : ¬ (A : Int) < 21 := by omega
                      have hjb' : ¬ ((j : Nat) : Int) < (base : Nat) := by omega
                      have hjc : ((j : Nat) : Int) ≤ (c : Nat) := by omega
                      have hj0' : (0 : Int) ≤ ((j : Nat) : Int) := Int.natCast_nonneg _
                      have hlj := Lib.hid (show (ls.take j).length = j by rw [List.length_take, HL.out]; omega)
                      have HR10 := Lib.hid ((HR9.out.below hb10).take j)
                      replace hr10 := Lib.hid hr10
                      replace hb10 := Lib.hid hb10
                      rw [hlj.out, hze.out]
                      clear hfail
                      go_wp2_with fail
                      refine (sameall_at p10 _ j c10 c (ls.take j) _ hlj.out (by unfold maxLen; omega) (fun i h => by have := HS.out _ (List.mem_of_mem_take (List.getElem_mem h)); unfold maxLen; omega) hr10.out HR10.out).mono ?_
                      rintro e w11 ⟨rfl, hb11⟩
                      replace hb11 := Lib.hid hb11
                      go_wp2
                      go_ret
                      exact ⟨by simp, Below.on (Below.on hw9.out hb10.out) hb11.out⟩
                  | false =>
                    have hw9 := hw8
                    have HT9 := HT8
                    have HR9 := HR8
                    have hA0 : (0 : Int) ≤ (A : Int) := Int.natCast_nonneg _
                    have hA2 : (A : Int) ≤ (cap8 : Int) := by omega
                    have hq9 := Lib.hid (hr8.out.take A)
                    have hY9 := Lib.hid (hsY.out.take A)
                    have hS9 := Lib.hid (scan_cut (A := A) (j := j) h0.out hf hb HS.out (by rw [HL.out]; exact hj) (by rw [hze.out]; exact HJA.out) HST.out (by rw [← hsl2.out]; exact hA))
                    have hl9 := Lib.hid (show ((seg file base ls).take A).length = A by rw [List.length_take, ← hsl2.out]; omega)
                    generalize (seg file base ls).take A = D at *
                    go_wp2_with fail
                    by_cases hfail : A < 21 ∨ j < base
                    · refine ((scan_at file (some ⟨g8, 0, none⟩) A cap8 D _ hl9.out (by omega) (by omega) hq9.out hY9.out (by omega) HT9.out).mono fun e w' h => ScanPost.no h (by rw [hS9.out, if_pos hfail])).mono ?_
                      rintro e w10 ⟨rfl, hb10⟩
                      replace hb10 := Lib.hid hb10
                      by_cases hA21 : A < 21
                      · have hA21' : (A : Int) < 21 := by omega
                        clear hfail
                        go_wp2
                        go_ret
                        exact ⟨by simp, Below.on hw9.out hb10.out⟩
                      · have hA21' : ¬ (A : Int) < 21 := by omega
                        have hjb' : ((j : Nat) : Int) < (base : Nat) := by omega
                        clear hfail
                        go_wp2
                        go_ret
                        exact ⟨by simp, Below.on hw9.out hb10.out⟩
                    · refine ((scan_at file (some ⟨g8, 0, none⟩) A cap8 D _ hl9.out (by omega) (by omega) hq9.out hY9.out (by omega) HT9.out).mono fun e w' h => ScanPost.yes h (by rw [hS9.out, if_neg hfail])).mono ?_
                      rintro e w10 ⟨p10, c10, rfl, hr10, hb10⟩
                      have hA21' : ¬ (A : Int) < 21 := by omega
                      have hjb' : ¬ ((j : Nat) : Int) < (base : Nat) := by omega
                      have hjc : ((j : Nat) : Int) ≤ (c : Nat) := by omega
                      have hj0' : (0 : Int) ≤ ((j : Nat) : Int) := Int.natCast_nonneg _
                      have hlj := Lib.hid (show (ls.take j).length = j by rw [List.length_take, HL.out]; omega)
                      have HR10 := Lib.hid ((HR9.out.below hb10).take j)
                      replace hr10 := Lib.hid hr10
                      replace hb10 := Lib.hid hb10
                      rw [hlj.out, hze.out]
                      clear hfail
                      go_wp2_with fail
                      refine (sameall_at p10 _ j c10 c (ls.take j) _ hlj.out (by unfold maxLen; omega) (fun i h => by have := HS.out _ (List.mem_of_mem_take (List.getElem_mem h)); unfold maxLen; omega) hr10.out HR10.out).mono ?_
                      rintro e w11 ⟨rfl, hb11⟩
                      replace hb11 := Lib.hid hb11
                      go_wp2
                      go_ret
                      exact ⟨by simp, Below.on (Below.on hw9.out hb10.out) hb11.out⟩
    · have hZ := Lib.hid (decide_eq_false hz)
      rw [hZ.out]
      clear hz
      go_wp2
      go_ret
      exact ⟨rfl, Below.alloc_ (Below.refl _ _) _⟩
  · have HS := Lib.hid hs
    clear hs
    refine (little_any w.heap.size n c p ls _ HL.out hn (by simp) (by simp) (HR.out.below (Below.alloc_ (Below.refl _ _) _))).mono ?_
    rintro e w1 ⟨⟨b, rfl⟩, rfl⟩
    cases b with
    | false =>
      go_wp2
      go_ret
      exact ⟨rfl, Below.alloc_ (Below.refl _ _) _⟩
    | true =>
      go_wp2
      go_loop [11] (fun i => ∃ k : Nat, k ≤ n ∧ i = .int .i64 k ∧ ∀ j (h : j < ls.length), j < k → (ls[j]).length ≤ 60000) (fun i => n - (intOf i).toNat)
      case atStart => exact ⟨0, Nat.zero_le _, rfl, fun j _ h => by omega⟩
      case round =>
        obtain ⟨k, hk, rfl, hj⟩ := hrel
        have HJ := Lib.hid hj
        clear hj
        by_cases hlt : k < n
        · obtain ⟨b, o, x, cx, rfl, hb, hc, _, _, _⟩ := (HR.out.below (Below.alloc_ (Below.refl _ _) (Obj.cells #[.int .i64 0, .int .u64 0, .int .i64 0, .slice none 0 0, .slice none 0 0, .slice p n c] 50))) k (by rw [HL.out]; exact hlt)
          obtain ⟨m, hm⟩ : ∃ m, m = (ls[k]'(by rw [HL.out]; exact hlt)).length := ⟨_, rfl⟩
          rw [← hm] at hc
          replace hm := Lib.hid hm
          have hk0 : (0 : Int) ≤ (k : Int) := Int.natCast_nonneg _
          have hk1 : (k : Int) < (n : Int) := by omega
          by_cases hbig : 60000 < m
          · have hbig' : (60000 : Int) < (m : Nat) := by omega
            go_wp2
            go_ret
            exact ⟨rfl, Below.alloc_ (Below.refl _ _) _⟩
          · have hbig' : ¬ (60000 : Int) < (m : Nat) := by omega
            go_wp2
            go_round
            case rel => exact ⟨k + 1, by omega, by go_num, fun j h h' => by
              by_cases e : j = k
              · subst e; rw [← hm.out]; omega
              · exact HJ.out j h (by omega)⟩
            case measure => simp [intOf]; omega
        · exfalso
          apply HS.out
          intro b hb
          obtain ⟨j, hj, rfl⟩ := List.getElem_of_mem hb
          exact HJ.out j hj (by rw [HL.out] at hj; omega)
end Go.Proofs.YtfapaehjmbekpaaDoor
