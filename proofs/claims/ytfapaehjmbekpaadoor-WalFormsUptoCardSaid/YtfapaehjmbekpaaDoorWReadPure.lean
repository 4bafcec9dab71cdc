/- What a segment that was cut off or in which a byte was turned says: plain lists; no program is in sight. -/
import Derived.Test.YtfapaehjmbekpaaDoorWScanPure
import Derived.Test.YtfapaehjmbekpaaDoorCrcInj
namespace Go.Proofs.YtfapaehjmbekpaaDoor
set_option linter.unusedSimpArgs false
set_option linter.unusedVariables false
def signed (P : List Int) : List Int := P ++ le32 (crc P)
theorem signed_len (P : List Int) : (signed P).length = P.length + 4 := by simp [signed, le32]
theorem le32_inj {x y : Nat} (h : le32 x = le32 y) : x = y := by
  simp [le32] at h
  omega
theorem signed_byt {P : List Int} (h : Byt P) : Byt (signed P) := h.append (le32_byt (crc_lt _))
theorem signed_left {P : List Int} {j : Nat} (h : j < P.length) (h' : j < (signed P).length) : (signed P)[j] = P[j] := List.getElem_append_left h
theorem signed_right {P : List Int} {j : Nat} (h : P.length ≤ j) (h' : j < (signed P).length) (h2 : j - P.length < (le32 (crc P)).length) : (signed P)[j] = (le32 (crc P))[j - P.length] := List.getElem_append_right h
theorem signed_one {P P' : List Int} {j : Nat} {y : Int} (hl : P'.length = P.length) (hj : j < (signed P).length) (hY : Byt P) (hy : 0 ≤ y ∧ y < 256) (hne : y ≠ (signed P)[j]) (h : signed P' = (signed P).set j y) : False := by
  by_cases hjp : j < P.length
  · have e : (signed P).set j y = P.set j y ++ le32 (crc P) := by unfold signed; rw [List.set_append_left _ _ hjp]
    rw [e] at h
    obtain ⟨h1, h2⟩ := List.append_inj h (by simpa using hl)
    have hc := le32_inj h2
    rw [h1] at hc
    refine crc_one hjp (hY j hjp) hy ?_ hc
    intro e; apply hne; rw [e, signed_left hjp]
  · have e : (signed P).set j y = P ++ (le32 (crc P)).set (j - P.length) y := by unfold signed; rw [List.set_append_right _ _ (by omega)]
    rw [e] at h
    obtain ⟨h1, h2⟩ := List.append_inj h hl
    subst h1
    have hj4 : j - P'.length < (le32 (crc P')).length := by rw [signed_len] at hj; simp [le32]; omega
    have h3 : (le32 (crc P'))[j - P'.length] = y := by
      have h4 : ((le32 (crc P')).set (j - P'.length) y)[j - P'.length]'(by simpa using hj4) = y := by simp
      rw [← h4]
      congr 1
    apply hne
    rw [← h3, signed_right (by omega) hj hj4]
def framesL : Nat → List (List Int) → List Int
  | _, [] => []
  | n, b :: r => frm n b ++ framesL (n + 1) r
theorem framesL_append : ∀ (a b : List (List Int)) (n : Nat), framesL n (a ++ b) = framesL n a ++ framesL (n + a.length) b
  | [], b, n => by simp [framesL]
  | x :: a, b, n => by
    simp only [List.cons_append, framesL, List.length_cons]
    rw [framesL_append a b (n + 1), List.append_assoc, show n + 1 + a.length = n + (a.length + 1) by omega]
theorem framesL_len : ∀ (a : List (List Int)) (n : Nat), (framesL n a).length = sizeL a
  | [], n => rfl
  | x :: a, n => by
    simp only [framesL, List.length_append, frm_len, framesL_len a, sizeL, List.map_cons, List.sum_cons]
theorem frm_parts (n : Nat) (b : List Int) : frm n b = signed (frmP n b) ++ signed b := by simp [frm, signed, List.append_assoc]
theorem val32_frm {n : Nat} {b t : List Int} (hb : b.length < 4294967296) : val32 (frm n b ++ t) = b.length := by
  unfold frm frmP
  simp only [List.append_assoc]
  exact val32_be32 hb
theorem body_frm (n : Nat) (b t : List Int) : ((frm n b ++ t).drop 12).take b.length = b := by
  rw [frm_parts, List.append_assoc, List.drop_append, List.drop_of_length_le (by rw [signed_len, frmP_len]; omega), List.nil_append, signed_len, frmP_len]
  simp [signed, List.append_assoc]
theorem nextB_frm {n : Nat} {b t : List Int} (hb : b.length ≤ 60000) : nextB n (frm n b ++ t) = some b := by
  unfold nextB
  rw [val32_frm (by omega), body_frm, if_neg (by rw [List.length_append, frm_len]; omega), if_pos]
  unfold pfxB
  refine eqB_true ?_
  rw [List.take_append_of_le_length (Nat.le_refl _), List.take_of_length_le (Nat.le_refl _)]
theorem scanL_frames : ∀ (bs : List (List Int)) (n f : Nat) (t : List Int), (∀ b ∈ bs, b.length ≤ 60000) → nextB (n + bs.length) t = none → (framesL n bs ++ t).length ≤ f → scanL f n (framesL n bs ++ t) = bs
  | [], n, f, t, _, hn, _ => by
    cases f with
    | zero => rfl
    | succ f => simp only [framesL, List.nil_append, scanL]; rw [show nextB n t = none from hn]
  | b :: r, n, f, t, hb, hn, hf => by
    have hb0 := hb b (by simp)
    have hl : (frm n b).length = b.length + 16 := frm_len n b
    simp only [framesL, List.append_assoc, List.length_append] at hf
    obtain ⟨g, rfl⟩ : ∃ g, f = g + 1 := ⟨f - 1, by omega⟩
    simp only [framesL, List.append_assoc, scanL]
    rw [nextB_frm hb0]
    simp only
    rw [List.drop_append, List.drop_of_length_le (by omega), List.nil_append, hl, Nat.sub_self, List.drop_zero]
    rw [scanL_frames r (n + 1) g t (fun x hx => hb x (by simp [hx])) (by rw [show n + 1 + r.length = n + (r.length + 1) by omega]; exact hn) (by simp; omega)]
def seg (file base : Nat) (bs : List (List Int)) : List Int := hdr file base ++ framesL 0 bs
theorem seg_len (file base : Nat) (bs : List (List Int)) : (seg file base bs).length = 21 + sizeL bs := by
  unfold seg
  rw [List.length_append, hdr_len, framesL_len]
theorem hdr_base {file base : Nat} {t : List Int} (hb : base < 4294967296) : val32 ((hdr file base ++ t).drop 13) = base := by
  have e : (hdr file base ++ t).drop 13 = be32 base ++ (le32 (crc (hdrP file base)) ++ t) := by
    unfold hdr
    rw [List.append_assoc, show hdrP file base = ([81, 76, 79, 71, 1] ++ be32 (file / 4294967296) ++ be32 (file % 4294967296)) ++ be32 base from rfl, List.append_assoc, List.drop_append, List.drop_of_length_le (by simp [be32])]
    simp [be32]
  rw [e]
  exact val32_be32 hb
theorem hdr_pfx (file base : Nat) (t : List Int) : pfxB (hdr file base ++ t) (hdr file base) = true := by
  unfold pfxB
  refine eqB_true ?_
  rw [List.take_append_of_le_length (Nat.le_refl _), List.take_of_length_le (Nat.le_refl _)]
/-- A whole header, then whole frames, then what is no whole frame. -/
theorem scanR_of {file base : Nat} {bs : List (List Int)} {t : List Int} (h0 : file ≠ 0) (hf : file ≤ 4611686018427387904) (hb : base ≤ 64) (hs : ∀ b ∈ bs, b.length ≤ 60000) (hn : nextB bs.length t = none) :
    scanR file (hdr file base ++ (framesL 0 bs ++ t)) = if bs.length < base then none else some (base, bs) := by
  have ha : scanAll (hdr file base ++ (framesL 0 bs ++ t)) = bs := by
    unfold scanAll
    rw [List.drop_append, List.drop_of_length_le (by rw [hdr_len]; omega), List.nil_append, hdr_len, Nat.sub_self, List.drop_zero]
    exact scanL_frames bs 0 _ t hs (by simpa using hn) (by simp)
  unfold scanR
  rw [hdr_base (by omega), if_neg (by rw [List.length_append, hdr_len]; omega), hdr_pfx, if_pos rfl, ha]
theorem nextB_short {n : Nat} {t : List Int} (h : t.length < 16) : nextB n t = none := by
  unfold nextB
  rw [if_pos (.inl h)]
theorem scanR_seg {file base : Nat} {bs : List (List Int)} (h0 : file ≠ 0) (hf : file ≤ 4611686018427387904) (hb : base ≤ 64) (hs : ∀ b ∈ bs, b.length ≤ 60000) :
    scanR file (seg file base bs) = if bs.length < base then none else some (base, bs) := by
  have := scanR_of (t := []) h0 hf hb hs (nextB_short (by simp))
  simpa [seg] using this
theorem be32_byte_eq {a b : Nat} (h : be32 a = be32 b) : a = b := be32_inj h
theorem hdr_inj {f f' b b' : Nat} (hf : f < 18446744073709551616) (hf' : f' < 18446744073709551616) (h : hdr f b = hdr f' b') : f = f' := by
  unfold hdr hdrP at h
  obtain ⟨h1, _⟩ := List.append_inj h rfl
  obtain ⟨h2, _⟩ := List.append_inj h1 rfl
  obtain ⟨h3, h4⟩ := List.append_inj h2 rfl
  obtain ⟨_, h5⟩ := List.append_inj h3 rfl
  have := be32_inj h4
  have := be32_inj h5
  omega
theorem scanR_other {file base : Nat} {bs : List (List Int)} (hf : file ≤ 4611686018427387904) : scanR (file + 1) (seg file base bs) = none := by
  unfold scanR
  split
  · rfl
  · rename_i h1
    rw [if_neg]
    intro h
    have e := of_decide_eq_true (show decide _ = true from h)
    unfold seg at e
    rw [hdr_len, List.take_append_of_le_length (by rw [hdr_len]; omega), List.take_of_length_le (by rw [hdr_len]; omega)] at e
    have := hdr_inj (by omega) (by omega) e
    omega
/-- How many bodies lie whole ahead of a place, and where they end. -/
def kept (bs : List (List Int)) (a : Nat) (k : Nat) : Prop := k ≤ bs.length ∧ 21 + sizeL (bs.take k) ≤ a ∧ (∀ h : k < bs.length, a < 21 + sizeL (bs.take (k + 1)))
theorem sizeL_take_succ {bs : List (List Int)} {k : Nat} (h : k < bs.length) : sizeL (bs.take (k + 1)) = sizeL (bs.take k) + (bs[k].length + 16) := by
  rw [List.take_succ_eq_append_getElem h, sizeL_snoc]
theorem scanR_cut {file base : Nat} {bs : List (List Int)} {a k : Nat} (h0 : file ≠ 0) (hf : file ≤ 4611686018427387904) (hb : base ≤ 64) (hs : ∀ b ∈ bs, b.length ≤ 60000) (ha : 21 ≤ a) (hk : kept bs a k) (hlt : a < (seg file base bs).length) :
    scanR file ((seg file base bs).take a) = if k < base then none else some (base, bs.take k) := by
  obtain ⟨h1, h2, h3⟩ := hk
  have hkl : k < bs.length := by
    by_cases h : k < bs.length
    · exact h
    · rw [List.take_of_length_le (by omega)] at h2
      rw [seg_len] at hlt
      omega
  have h4 := h3 hkl
  rw [sizeL_take_succ hkl] at h4
  have hsp : framesL 0 bs = framesL 0 (bs.take k) ++ (frm k bs[k] ++ framesL (k + 1) (bs.drop (k + 1))) := by
    have e : bs = bs.take k ++ (bs[k] :: bs.drop (k + 1)) := by simp
    have e2 := framesL_append (bs.take k) (bs[k] :: bs.drop (k + 1)) 0
    rw [← e] at e2
    rw [e2, List.length_take, Nat.min_eq_left (by omega), Nat.zero_add]
    rfl
  have hl1 : (framesL 0 (bs.take k)).length = sizeL (bs.take k) := framesL_len _ _
  have e : (seg file base bs).take a = hdr file base ++ (framesL 0 (bs.take k) ++ (frm k bs[k]).take (a - 21 - sizeL (bs.take k))) := by
    unfold seg
    rw [hsp, List.take_append, List.take_of_length_le (by rw [hdr_len]; omega), hdr_len, List.take_append, List.take_of_length_le (by omega), hl1, List.take_append_of_le_length (by rw [frm_len]; omega)]
  rw [e]
  have hlt' : (bs.take k).length = k := by rw [List.length_take]; omega
  have := scanR_of (file := file) (base := base) (bs := bs.take k) (t := (frm k bs[k]).take (a - 21 - sizeL (bs.take k))) h0 hf hb (fun b hb => hs b (List.mem_of_mem_take hb)) (by
    rw [hlt']
    by_cases h16 : a - 21 - sizeL (bs.take k) < 16
    · exact nextB_short (by rw [List.length_take]; omega)
    · have hbl := hs bs[k] (List.getElem_mem _)
      have hv : val32 ((frm k bs[k]).take (a - 21 - sizeL (bs.take k))) = bs[k].length := by
        have e1 : (frm k bs[k]).take (a - 21 - sizeL (bs.take k)) = be32 bs[k].length ++ ((frm k bs[k]).drop 4).take (a - 21 - sizeL (bs.take k) - 4) := by
          rw [show a - 21 - sizeL (bs.take k) = 4 + (a - 21 - sizeL (bs.take k) - 4) by omega, List.take_add, Nat.add_sub_cancel_left]
          rfl
        rw [e1]
        exact val32_be32 (by omega)
      unfold nextB
      rw [if_pos]
      rw [hv, List.length_take, frm_len]
      omega)
  rw [this, hlt']
theorem nextB_turn {k j : Nat} {b rest : List Int} {y : Int} (hk : k < 4294967296) (hb : b.length ≤ 60000) (hY : Byt b) (hy : 0 ≤ y ∧ y < 256) (hj : j < (frm k b).length) (hne : y ≠ (frm k b)[j]) : nextB k ((frm k b).set j y ++ rest) = none := by
  cases hn : nextB k ((frm k b).set j y ++ rest) with
  | none => rfl
  | some b' =>
    exfalso
    obtain ⟨n1, n2, _, _, n5⟩ := nextB_len hn
    have e := of_decide_eq_true (show decide _ = true from n5)
    have hfl : ((frm k b).set j y).length = b.length + 16 := by rw [List.length_set, frm_len]
    have e12 : (((frm k b).set j y ++ rest).take (frm k b').length).take 12 = (frm k b').take 12 := by rw [e]
    have r12 : (frm k b').take 12 = signed (frmP k b') := by rw [frm_parts k b', List.take_append_of_le_length (by rw [signed_len, frmP_len]; omega), List.take_of_length_le (by rw [signed_len, frmP_len]; omega)]
    rw [frm_len, List.take_take, Nat.min_eq_left (by omega), List.take_append_of_le_length (by omega), r12] at e12
    have h12 : (signed (frmP k b)).length = 12 := by rw [signed_len, frmP_len]
    by_cases hlt : j < 12
    · have e1 : ((frm k b).set j y).take 12 = (signed (frmP k b)).set j y := by
        rw [frm_parts, List.set_append_left _ _ (by omega), List.take_append_of_le_length (by rw [List.length_set]; omega), List.take_of_length_le (by rw [List.length_set]; omega)]
      rw [e1] at e12
      refine signed_one (P := frmP k b) (P' := frmP k b') (j := j) (y := y) rfl (by omega) (frmP_byt hk (by omega)) hy ?_ e12.symm
      intro e2; apply hne; rw [e2]
      have h3 : (frm k b)[j]? = (signed (frmP k b))[j]? := by rw [frm_parts, List.getElem?_append_left (by omega)]
      rw [List.getElem?_eq_getElem hj, List.getElem?_eq_getElem (by omega)] at h3
      injection h3 with h3
      exact h3.symm
    · have e1 : ((frm k b).set j y).take 12 = signed (frmP k b) := by
        rw [frm_parts, List.set_append_right _ _ (by omega), List.take_append_of_le_length (by omega), List.take_of_length_le (by omega)]
      rw [e1] at e12
      obtain ⟨e3, _⟩ := List.append_inj (show frmP k b ++ le32 (crc (frmP k b)) = frmP k b' ++ le32 (crc (frmP k b')) from e12) rfl
      obtain ⟨e4, _⟩ := List.append_inj (show be32 b.length ++ be32 k = be32 b'.length ++ be32 k from e3) rfl
      have hl := be32_inj e4
      rw [frm_len, List.take_append_of_le_length (by omega), List.take_of_length_le (by omega)] at e
      have e5 : ((frm k b).set j y).drop 12 = (signed b).set (j - 12) y := by
        rw [frm_parts, List.set_append_right _ _ (by omega), List.drop_append, List.drop_of_length_le (by omega), List.nil_append, h12, Nat.sub_self, List.drop_zero]
      have e6 : (frm k b').drop 12 = signed b' := by
        rw [frm_parts, List.drop_append, List.drop_of_length_le (by rw [signed_len, frmP_len]; omega), List.nil_append, signed_len, frmP_len]
        simp
      rw [e, e6] at e5
      rw [frm_len] at hj
      have hj' : j - 12 < (signed b).length := by rw [signed_len]; omega
      refine signed_one (P := b) (P' := b') (j := j - 12) (y := y) hl.symm hj' hY hy ?_ e5
      intro e2; apply hne; rw [e2]
      have h3 : (frm k b)[j]? = (signed b)[j - 12]? := by rw [frm_parts, List.getElem?_append_right (by omega), h12]
      rw [List.getElem?_eq_getElem (by rw [frm_len]; exact hj), List.getElem?_eq_getElem hj'] at h3
      injection h3 with h3
      exact h3.symm
theorem hdr_signed (file base : Nat) : hdr file base = signed (hdrP file base) := rfl
theorem scanR_head {file base a : Nat} {bs : List (List Int)} {y : Int} (hf : file < 18446744073709551616) (hb : base ≤ 64) (ha : a < 21) (hy : 0 ≤ y ∧ y < 256) (hlt : a < (seg file base bs).length) (hne : y ≠ (seg file base bs)[a]) :
    scanR file ((seg file base bs).set a y) = none := by
  unfold scanR
  split
  · rfl
  · rename_i h1
    rw [if_neg]
    intro h
    have e := of_decide_eq_true (show decide _ = true from h)
    generalize val32 (((seg file base bs).set a y).drop 13) = n' at h1 e
    unfold seg at e
    rw [hdr_len, List.set_append_left _ _ (by rw [hdr_len]; omega), List.take_append_of_le_length (by rw [List.length_set, hdr_len]; omega), List.take_of_length_le (by rw [List.length_set, hdr_len]; omega)] at e
    refine signed_one (P := hdrP file base) (P' := hdrP file n') (j := a) (y := y) (by rw [hdrP_len, hdrP_len]) (by rw [signed_len, hdrP_len]; omega) (hdrP_byt hf (by omega)) hy ?_ (by rw [← hdr_signed, ← hdr_signed]; exact e.symm)
    intro e2; apply hne; rw [e2]
    have h3 : (seg file base bs)[a]? = (signed (hdrP file base))[a]? := by
      unfold seg
      rw [List.getElem?_append_left (by rw [hdr_len]; omega), hdr_signed]
    rw [List.getElem?_eq_getElem hlt, List.getElem?_eq_getElem (by rw [signed_len, hdrP_len]; omega)] at h3
    injection h3 with h3
    exact h3.symm
theorem scanR_turn {file base : Nat} {bs : List (List Int)} {a k : Nat} {y : Int} (h0 : file ≠ 0) (hf : file ≤ 4611686018427387904) (hb : base ≤ 64) (hs : ∀ b ∈ bs, b.length ≤ 60000) (hsY : ∀ b ∈ bs, Byt b) (hbl : bs.length < 4294967296) (ha : 21 ≤ a) (hk : kept bs a k) (hy : 0 ≤ y ∧ y < 256) (hlt : a < (seg file base bs).length) (hne : y ≠ (seg file base bs)[a]) :
    scanR file ((seg file base bs).set a y) = if k < base then none else some (base, bs.take k) := by
  obtain ⟨h1, h2, h3⟩ := hk
  have hkl : k < bs.length := by
    by_cases h : k < bs.length
    · exact h
    · rw [List.take_of_length_le (by omega)] at h2
      rw [seg_len] at hlt
      omega
  have h4 := h3 hkl
  rw [sizeL_take_succ hkl] at h4
  have hsp : framesL 0 bs = framesL 0 (bs.take k) ++ (frm k bs[k] ++ framesL (k + 1) (bs.drop (k + 1))) := by
    have e : bs = bs.take k ++ (bs[k] :: bs.drop (k + 1)) := by simp
    have e2 := framesL_append (bs.take k) (bs[k] :: bs.drop (k + 1)) 0
    rw [← e] at e2
    rw [e2, List.length_take, Nat.min_eq_left (by omega), Nat.zero_add]
    rfl
  have hl1 : (framesL 0 (bs.take k)).length = sizeL (bs.take k) := framesL_len _ _
  have hjl : a - 21 - sizeL (bs.take k) < (frm k bs[k]).length := by rw [frm_len]; omega
  have e : (seg file base bs).set a y = hdr file base ++ (framesL 0 (bs.take k) ++ ((frm k bs[k]).set (a - 21 - sizeL (bs.take k)) y ++ framesL (k + 1) (bs.drop (k + 1)))) := by
    unfold seg
    rw [hsp, List.set_append_right _ _ (by rw [hdr_len]; omega), hdr_len, List.set_append_right _ _ (by omega), hl1, List.set_append_left _ _ hjl]
  have hat : (seg file base bs)[a]? = (frm k bs[k])[a - 21 - sizeL (bs.take k)]? := by
    unfold seg
    rw [hsp, List.getElem?_append_right (by rw [hdr_len]; omega), hdr_len, List.getElem?_append_right (by omega), hl1, List.getElem?_append_left hjl]
  rw [List.getElem?_eq_getElem hlt, List.getElem?_eq_getElem hjl] at hat
  injection hat with hat
  rw [e]
  have hlt' : (bs.take k).length = k := by rw [List.length_take]; omega
  have hm : bs[k] ∈ bs := List.getElem_mem _
  have := scanR_of (file := file) (base := base) (bs := bs.take k) (t := (frm k bs[k]).set (a - 21 - sizeL (bs.take k)) y ++ framesL (k + 1) (bs.drop (k + 1))) h0 hf hb (fun b hb => hs b (List.mem_of_mem_take hb)) (by
    rw [hlt']
    exact nextB_turn (by omega) (hs _ hm) (hsY _ hm) hy hjl (by rw [← hat]; exact hne))
  rw [this, hlt']
end Go.Proofs.YtfapaehjmbekpaaDoor
