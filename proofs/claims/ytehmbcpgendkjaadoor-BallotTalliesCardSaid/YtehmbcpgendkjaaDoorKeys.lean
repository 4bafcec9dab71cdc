import Derived.Test.YtehmbcpgendkjaaDoorTalBFn
namespace Go.Proofs.YtehmbcpgendkjaaDoor
set_option linter.unusedSimpArgs false
set_option linter.unusedVariables false
abbrev KK := Int × Int × Int
/-- A key of the document's tally with the set that stands at it. -/
abbrev RK := KK × Nat
def idxK : List RK → KK → Option Nat
  | [], _ => none
  | x :: r, key => if x.1 = key then some 0 else (idxK r key).map (· + 1)
def lookK : List RK → KK → Option Nat
  | [], _ => none
  | x :: r, key => if x.1 = key then some x.2 else lookK r key
def spkK : List RK → KK → Int → List RK
  | [], key, x => [(key, withB 0 x)]
  | y :: r, key, x => if y.1 = key then (y.1, withB y.2 x) :: r else y :: spkK r key x
def dropK : List RK → KK → List RK
  | [], _ => []
  | y :: r, key => if y.1 = key then dropK r key else y :: dropK r key
def NodK (ks : List RK) : Prop := (ks.map (·.1)).Nodup
theorem idx_some : ∀ {ks : List RK} {key : KK} {i : Nat}, idxK ks key = some i → ∃ h : i < ks.length, ks[i].1 = key ∧ lookK ks key = some ks[i].2
  | [], _, _, h => by simp [idxK] at h
  | x :: r, key, i, h => by
    unfold idxK at h
    by_cases e : x.1 = key
    · rw [if_pos e] at h
      obtain rfl : 0 = i := by injection h
      exact ⟨by simp, by simpa using e, by unfold lookK; rw [if_pos e]; rfl⟩
    · rw [if_neg e] at h
      obtain ⟨j, hj, rfl⟩ := Option.map_eq_some_iff.1 h
      obtain ⟨h1, h2, h3⟩ := idx_some hj
      exact ⟨by simp; omega, by simpa using h2, by unfold lookK; rw [if_neg e, h3]; rfl⟩
theorem idx_none : ∀ {ks : List RK} {key : KK}, idxK ks key = none → lookK ks key = none
  | [], _, _ => rfl
  | x :: r, key, h => by
    unfold idxK at h
    by_cases e : x.1 = key
    · rw [if_pos e] at h; simp at h
    · rw [if_neg e] at h
      unfold lookK
      rw [if_neg e]
      exact idx_none (by simpa using h)
theorem idx_of_mem : ∀ {ks : List RK} {key : KK} {i : Nat} (hn : NodK ks) (h : i < ks.length), ks[i].1 = key → idxK ks key = some i
  | [], _, _, _, h, _ => by simp at h
  | x :: r, key, 0, hn, h, e => by
    unfold idxK
    rw [if_pos (by simpa using e)]
  | x :: r, key, i + 1, hn, h, e => by
    unfold idxK
    have hn' : x.1 ∉ r.map (·.1) ∧ NodK r := by simpa [NodK] using hn
    have hi : i < r.length := by simpa using h
    have e' : r[i].1 = key := by simpa using e
    have hx : x.1 ≠ key := fun hk => hn'.1 (by rw [hk, ← e']; exact List.mem_map_of_mem (List.getElem_mem (by simpa using h)))
    rw [if_neg hx, idx_of_mem hn'.2 (by simpa using h) e']
    rfl
theorem idx_of_not : ∀ {ks : List RK} {key : KK}, (∀ x ∈ ks, x.1 ≠ key) → idxK ks key = none
  | [], _, _ => rfl
  | x :: r, key, h => by
    unfold idxK
    rw [if_neg (h x (by simp)), idx_of_not (fun y hy => h y (by simp [hy]))]
    rfl
theorem spk_some : ∀ {ks : List RK} {key : KK} {i : Nat} {x : Int}, idxK ks key = some i → ∃ h : i < ks.length, spkK ks key x = ks.set i (ks[i].1, withB ks[i].2 x)
  | [], _, _, _, h => by simp [idxK] at h
  | y :: r, key, i, x, h => by
    unfold idxK at h
    unfold spkK
    by_cases e : y.1 = key
    · rw [if_pos e] at h ⊢
      obtain rfl : 0 = i := by injection h
      exact ⟨by simp, rfl⟩
    · rw [if_neg e] at h ⊢
      obtain ⟨j, hj, rfl⟩ := Option.map_eq_some_iff.1 h
      obtain ⟨h1, h2⟩ := spk_some (x := x) hj
      exact ⟨by simp; omega, by rw [h2]; rfl⟩
theorem spk_none : ∀ {ks : List RK} {key : KK} {x : Int}, idxK ks key = none → spkK ks key x = ks ++ [(key, withB 0 x)]
  | [], _, _, _ => rfl
  | y :: r, key, x, h => by
    unfold idxK at h
    unfold spkK
    by_cases e : y.1 = key
    · rw [if_pos e] at h; simp at h
    · rw [if_neg e] at h ⊢
      rw [spk_none (by simpa using h)]
      rfl
theorem look_spk : ∀ (ks : List RK) (key k' : KK) (x : Int), lookK (spkK ks key x) k' = if k' = key then some (withB ((lookK ks key).getD 0) x) else lookK ks k'
  | [], key, k', x => by
    by_cases e : k' = key
    · subst e; simp [spkK, lookK]
    · have e2 : ¬ key = k' := fun h => e h.symm
      simp only [spkK, lookK, if_neg e, if_neg e2]
  | y :: r, key, k', x => by
    unfold spkK
    by_cases e : y.1 = key
    · rw [if_pos e]
      by_cases e' : k' = key
      · subst e'; simp [lookK, e]
      · have h2 : ¬ y.1 = k' := fun h => e' (h ▸ e)
        simp [lookK, e', h2]
    · rw [if_neg e]
      have ih := look_spk r key k' x
      by_cases e' : k' = key
      · subst e'
        simp only [lookK, if_neg e, ih, if_true]
      · by_cases h2 : y.1 = k'
        · simp [lookK, h2, e']
        · simp only [lookK, if_neg h2, ih, if_neg e']
theorem len_spk : ∀ (ks : List RK) (key : KK) (x : Int), (spkK ks key x).length = if (lookK ks key).isSome then ks.length else ks.length + 1
  | [], key, x => by simp [spkK, lookK]
  | y :: r, key, x => by
    unfold spkK
    by_cases e : y.1 = key
    · simp [lookK, e]
    · rw [if_neg e]
      have ih := len_spk r key x
      simp only [lookK, if_neg e, List.length_cons, ih]
      split <;> rfl
theorem mem_spk : ∀ {ks : List RK} {key k' : KK} {x : Int}, k' ∈ (spkK ks key x).map (·.1) → k' = key ∨ k' ∈ ks.map (·.1)
  | [], key, k', x, h => by simpa [spkK] using h
  | y :: r, key, k', x, h => by
    unfold spkK at h
    by_cases e : y.1 = key
    · rw [if_pos e] at h
      simp only [List.map_cons] at h ⊢
      exact .inr h
    · rw [if_neg e] at h
      simp only [List.map_cons, List.mem_cons] at h ⊢
      rcases h with h | h
      · exact .inr (.inl h)
      · rcases mem_spk h with h | h
        · exact .inl h
        · exact .inr (.inr h)
theorem nod_spk : ∀ {ks : List RK} {key : KK} {x : Int}, NodK ks → NodK (spkK ks key x)
  | [], key, x, h => by simp [NodK, spkK]
  | y :: r, key, x, h => by
    have h' : y.1 ∉ r.map (·.1) ∧ NodK r := by simpa [NodK] using h
    unfold spkK
    by_cases e : y.1 = key
    · rw [if_pos e]
      simpa [NodK] using h
    · rw [if_neg e]
      have h2 : y.1 ∉ (spkK r key x).map (·.1) := fun hm => (mem_spk hm).elim e h'.1
      have h3 : NodK (spkK r key x) := nod_spk h'.2
      unfold NodK at h3 ⊢
      rw [List.map_cons, List.nodup_cons]
      exact ⟨h2, h3⟩
theorem look_drop : ∀ (ks : List RK) (key k' : KK), lookK (dropK ks key) k' = if k' = key then none else lookK ks k'
  | [], key, k' => by simp [dropK, lookK]
  | y :: r, key, k' => by
    unfold dropK
    have ih := look_drop r key k'
    by_cases e : y.1 = key
    · rw [if_pos e, ih]
      by_cases e' : k' = key
      · simp [e']
      · have h2 : ¬ y.1 = k' := fun h => e' (h ▸ e)
        simp [lookK, e', h2]
    · rw [if_neg e]
      by_cases e' : k' = key
      · subst e'
        simp only [lookK, if_neg e, ih, if_true]
      · by_cases h2 : y.1 = k'
        · simp [lookK, h2, e']
        · simp only [lookK, if_neg h2, ih, if_neg e']
theorem mem_drop : ∀ {ks : List RK} {key k' : KK}, k' ∈ (dropK ks key).map (·.1) → k' ∈ ks.map (·.1)
  | [], key, k', h => by simp [dropK] at h
  | y :: r, key, k', h => by
    unfold dropK at h
    by_cases e : y.1 = key
    · rw [if_pos e] at h
      simp only [List.map_cons, List.mem_cons]
      exact .inr (mem_drop h)
    · rw [if_neg e] at h
      simp only [List.map_cons, List.mem_cons] at h ⊢
      exact h.imp id mem_drop
theorem nod_drop : ∀ {ks : List RK} {key : KK}, NodK ks → NodK (dropK ks key)
  | [], key, h => by simp [NodK, dropK]
  | y :: r, key, h => by
    have h' : y.1 ∉ r.map (·.1) ∧ NodK r := by simpa [NodK] using h
    unfold dropK
    by_cases e : y.1 = key
    · rw [if_pos e]; exact nod_drop h'.2
    · rw [if_neg e]
      have h3 : NodK (dropK r key) := nod_drop h'.2
      unfold NodK at h3 ⊢
      rw [List.map_cons, List.nodup_cons]
      exact ⟨fun hm => h'.1 (mem_drop hm), h3⟩
theorem drop_same : ∀ {ks : List RK} {key : KK}, key ∉ ks.map (·.1) → dropK ks key = ks
  | [], key, h => rfl
  | y :: r, key, h => by
    simp only [List.map_cons, List.mem_cons, not_or] at h
    unfold dropK
    rw [if_neg (fun e => h.1 e.symm), drop_same h.2]
theorem look_mem : ∀ {ks : List RK} {key : KK}, (lookK ks key).isSome = true ↔ key ∈ ks.map (·.1)
  | [], key => by simp [lookK]
  | y :: r, key => by
    unfold lookK
    by_cases e : y.1 = key
    · simp [e]
    · rw [if_neg e, look_mem]
      rw [List.map_cons, List.mem_cons]
      exact ⟨.inr, fun h => h.elim (fun h => absurd h.symm e) id⟩
theorem len_drop : ∀ {ks : List RK} (key : KK), NodK ks → (dropK ks key).length = if (lookK ks key).isSome then ks.length - 1 else ks.length
  | [], key, _ => by simp [dropK, lookK]
  | y :: r, key, h => by
    have h' : y.1 ∉ r.map (·.1) ∧ NodK r := by simpa [NodK] using h
    unfold dropK
    by_cases e : y.1 = key
    · have hd := drop_same (key := key) (e ▸ h'.1)
      rw [if_pos e, hd]
      simp [lookK, e]
    · rw [if_neg e]
      have ih := len_drop key h'.2
      simp only [lookK, if_neg e, List.length_cons, ih]
      by_cases hs : (lookK r key).isSome = true
      · have hm := look_mem.1 hs
        have : 0 < r.length := by cases r with
          | nil => simp at hm
          | cons _ _ => simp
        rw [if_pos hs, if_pos hs]; omega
      · rw [if_neg hs, if_neg hs]
theorem len_drop_le : ∀ (ks : List RK) (key : KK), (dropK ks key).length ≤ ks.length
  | [], key => by simp [dropK]
  | y :: r, key => by
    unfold dropK
    have := len_drop_le r key
    split <;> simp <;> omega
theorem drop_append (a b : List RK) (key : KK) : dropK (a ++ b) key = dropK a key ++ dropK b key := by
  induction a with
  | nil => rfl
  | cons y r ih =>
    simp only [List.cons_append, dropK]
    split
    · exact ih
    · rw [ih]; rfl
end Go.Proofs.YtehmbcpgendkjaaDoor
