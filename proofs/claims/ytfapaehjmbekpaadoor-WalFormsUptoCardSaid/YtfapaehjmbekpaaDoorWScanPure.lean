/- What a segment's bytes say: plain lists; no program is in sight. -/
import Derived.Test.YtfapaehjmbekpaaDoorWFrame
namespace Go.Proofs.YtfapaehjmbekpaaDoor
set_option linter.unusedSimpArgs false
set_option linter.unusedVariables false
/-- The body of the whole frame number n that the bytes begin with. -/
def nextB (n : Nat) (rest : List Int) : Option (List Int) :=
  if rest.length < 16 ∨ 60000 < val32 rest ∨ rest.length < val32 rest + 16 then none
  else if pfxB rest (frm n ((rest.drop 12).take (val32 rest))) = true then some ((rest.drop 12).take (val32 rest)) else none
def scanL : Nat → Nat → List Int → List (List Int)
  | 0, _, _ => []
  | f + 1, n, rest => match nextB n rest with
    | none => []
    | some b => b :: scanL f (n + 1) (rest.drop (b.length + 16))
def sizeL (ls : List (List Int)) : Nat := (ls.map fun b => b.length + 16).sum
def scanAll (data : List Int) : List (List Int) := scanL data.length 0 (data.drop 21)
/-- The base and the bodies, or nothing. -/
def scanR (file : Nat) (data : List Int) : Option (Nat × List (List Int)) :=
  if data.length < 21 ∨ 64 < val32 (data.drop 13) ∨ file = 0 ∨ 4611686018427387904 < file then none
  else if pfxB data (hdr file (val32 (data.drop 13))) = true then
    if (scanAll data).length < val32 (data.drop 13) then none else some (val32 (data.drop 13), scanAll data)
  else none
theorem sizeL_snoc (ls : List (List Int)) (b : List Int) : sizeL (ls ++ [b]) = sizeL ls + (b.length + 16) := by simp [sizeL]
/-- Where the reading of a segment stands: ls are read, the next frame begins at 'at'. -/
def ScanAt (data : List Int) (ls : List (List Int)) (a : Nat) : Prop :=
  a = 21 + sizeL ls ∧ a ≤ data.length ∧ 16 * ls.length ≤ data.length ∧ ∃ f, (data.drop a).length ≤ f ∧ scanAll data = ls ++ scanL f ls.length (data.drop a)
theorem scanAt_start {data : List Int} (h : 21 ≤ data.length) : ScanAt data [] 21 := ⟨rfl, h, by simp, data.length, by simp, rfl⟩
theorem nextB_len {n : Nat} {rest b : List Int} (h : nextB n rest = some b) : b.length + 16 ≤ rest.length ∧ b.length ≤ 60000 ∧ b = (rest.drop 12).take (val32 rest) ∧ b.length = val32 rest ∧ pfxB rest (frm n b) = true := by
  unfold nextB at h
  split at h
  · cases h
  · rename_i h1
    split at h
    · rename_i h2
      injection h with h
      have hl : b.length = val32 rest := by rw [← h]; simp; omega
      exact ⟨by omega, by omega, h.symm, hl, by rw [← h]; exact h2⟩
    · cases h
theorem ScanAt.step {data : List Int} {ls : List (List Int)} {a : Nat} {b : List Int} (h : ScanAt data ls a) (hn : nextB ls.length (data.drop a) = some b) : ScanAt data (ls ++ [b]) (a + (b.length + 16)) := by
  obtain ⟨h1, h2, h5, f, h3, h4⟩ := h
  obtain ⟨n1, n2, n3, n4, n5⟩ := nextB_len hn
  obtain ⟨f, rfl⟩ : ∃ g, f = g + 1 := ⟨f - 1, by omega⟩
  simp at n1 h3
  refine ⟨by rw [sizeL_snoc, h1]; omega, by omega, ?_, f, by simp; omega, ?_⟩
  · have : 16 * ls.length ≤ sizeL ls := by
      unfold sizeL
      clear h4 hn h3 h1 h5 n5
      induction ls with
      | nil => simp
      | cons x r ih => simp; omega
    simp; omega
  · rw [h4]
    simp only [scanL, hn, List.append_assoc, List.singleton_append, List.length_append, List.length_singleton, List.drop_drop]
theorem ScanAt.done {data : List Int} {ls : List (List Int)} {a : Nat} (h : ScanAt data ls a) (hn : nextB ls.length (data.drop a) = none) : scanAll data = ls := by
  obtain ⟨h1, h2, h5, f, h3, h4⟩ := h
  rw [h4]
  cases f with
  | zero => simp [scanL]
  | succ f => simp [scanL, hn]
theorem be32_val32 {l : List Int} (h : 4 ≤ l.length) (hY : Byt l) : be32 (val32 l) = l.take 4 := by
  match l, h with
  | a :: b :: c :: d :: r, _ =>
    have h0 := hY 0 (by simp)
    have h1 := hY 1 (by simp)
    have h2 := hY 2 (by simp)
    have h3 := hY 3 (by simp)
    simp at h0 h1 h2 h3
    simp [be32, val32]
    omega
theorem val32_lt {l : List Int} (h : 4 ≤ l.length) (hY : Byt l) : val32 l < 4294967296 := by
  match l, h with
  | a :: b :: c :: d :: r, _ =>
    have h0 := hY 0 (by simp)
    have h1 := hY 1 (by simp)
    have h2 := hY 2 (by simp)
    have h3 := hY 3 (by simp)
    simp at h0 h1 h2 h3
    simp [val32]
    omega
theorem be32_inj {x y : Nat} (h : be32 x = be32 y) : x = y := by
  simp [be32] at h
  omega
theorem val32_be32 {x : Nat} {r : List Int} (h : x < 4294967296) : val32 (be32 x ++ r) = x := by
  simp [be32, val32]
  omega
/-- The program's four looks at a frame are one look at its bytes. -/
theorem frame_looks {n : Nat} {rest : List Int} (hn : n < 4294967296) (h16 : 16 ≤ rest.length) (hs : val32 rest + 16 ≤ rest.length) (hs2 : val32 rest ≤ 60000) (hY : Byt rest) :
    pfxB rest (frm n ((rest.drop 12).take (val32 rest))) = (decide (val32 (rest.drop 4) = n) && pfxB (rest.drop 8) (le32 (crc (rest.take 8))) && pfxB (rest.drop (12 + val32 rest)) (le32 (crc ((rest.drop 12).take (val32 rest))))) := by
  obtain ⟨s, hsz⟩ : ∃ s, s = val32 rest := ⟨_, rfl⟩
  rw [← hsz] at hs hs2 ⊢
  obtain ⟨body, hb⟩ : ∃ body, body = (rest.drop 12).take s := ⟨_, rfl⟩
  rw [← hb]
  have hbl : body.length = s := by rw [hb]; simp; omega
  have e1 : rest.take 4 = be32 s := by rw [hsz]; exact (be32_val32 (by omega) hY).symm
  have e2 : (rest.drop 4).take 4 = be32 (val32 (rest.drop 4)) := (be32_val32 (by simp; omega) (hY.drop 4)).symm
  have hsplit : rest.take (s + 16) = rest.take 4 ++ (rest.drop 4).take 4 ++ (rest.drop 8).take 4 ++ body ++ (rest.drop (12 + s)).take 4 := by
    rw [show s + 16 = 4 + (4 + (4 + (s + 4))) by omega, List.take_add, List.take_add, List.take_add, List.take_add, List.drop_drop, List.drop_drop, List.drop_drop, hb]
    simp [List.append_assoc]
  have h8 : rest.take 8 = rest.take 4 ++ (rest.drop 4).take 4 := by rw [show 8 = 4 + 4 by omega, List.take_add]
  unfold pfxB eqB
  rw [frm_len, hbl, hsplit]
  have l1 : ((rest.drop 8).take 4).length = 4 := by simp; omega
  have l2 : ((rest.drop (12 + s)).take 4).length = 4 := by simp; omega
  have k1 : ∀ x, (le32 x).length = 4 := fun _ => rfl
  rw [k1, k1, Bool.eq_iff_iff]
  simp only [decide_eq_true_eq, Bool.and_eq_true]
  unfold frm
  constructor
  · intro h
    obtain ⟨h, f1⟩ := List.append_inj h (by simp [frmP_len, k1, hbl, e1, e2, be32]; omega)
    obtain ⟨h, f2⟩ := List.append_inj h (by simp [frmP_len, k1, hbl, e1, e2, be32]; omega)
    obtain ⟨h, f3⟩ := List.append_inj h (by simp [frmP_len, k1, hbl, e1, e2, be32])
    obtain ⟨h, f4⟩ := List.append_inj h (by simp [frmP, k1, hbl, e1, e2, be32])
    have f5 : val32 (rest.drop 4) = n := be32_inj (by rw [← e2]; exact f4)
    refine ⟨⟨f5, ?_⟩, f1⟩
    rw [f3, h8, f4, h]
    rfl
  · rintro ⟨⟨f5, f3⟩, f1⟩
    have f8 : rest.take 8 = frmP n body := by rw [h8, e1, e2, f5]; unfold frmP; rw [hbl]
    rw [f1, f3, f8]
    congr 3
    rw [← h8, f8]
end Go.Proofs.YtfapaehjmbekpaaDoor
