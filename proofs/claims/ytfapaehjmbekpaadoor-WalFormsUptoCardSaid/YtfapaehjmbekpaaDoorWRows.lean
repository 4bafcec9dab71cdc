import Derived.Test.YtfapaehjmbekpaaDoorWScanPure
namespace Go.Proofs.YtfapaehjmbekpaaDoor
open Go.RowKit
set_option linter.unusedSimpArgs false
set_option linter.unusedVariables false
theorem rowInfo : (Tryd.prog.info? 23).map (fun i => (i.zero, i.size, i.bytes)) = some (some (.slice none 0 0), 1, 24) := by kernel_rfl
theorem owns_below {E sz : Nat} {w w' : World} {B n : Nat} {v : Value} {xs : List Value} (h : w.ownsRow B E sz v n xs) (hb : Below w.heap.size w w') : w'.ownsRow B E sz v n xs := by
  obtain ⟨hl, h | ⟨g', c, cur, hv, hB, hh, hn, hm, hs, ht⟩⟩ := h
  · exact ⟨hl, .inl h⟩
  · refine ⟨hl, .inr ⟨g', c, cur, hv, hB, (hb.block g' ?_).trans hh, hn, hm, hs, ht⟩⟩
    by_cases hlt : g' < w.heap.size
    · exact hlt
    · rw [Array.getElem?_eq_none (by omega)] at hh; simp at hh
theorem OwnB.other {w w' : World} {B : Nat} {v : Value} {l : List Int} {row : Option Nat} (h : OwnB w B v l) (hg : w.grownBy w' row) (hne : ∀ g, v.ownBlock = some g → row ≠ some g) : OwnB w' B v l := by
  obtain ⟨hl, h | ⟨g', c, cur, hv, hB, hh, hn, hm, hs, ht⟩⟩ := h
  · exact ⟨hl, .inl h⟩
  · refine ⟨hl, .inr ⟨g', c, cur, hv, hB, (hg.block g' ?_ ?_).trans hh, hn, hm, hs, ht⟩⟩
    · by_cases hlt : g' < w.heap.size
      · exact hlt
      · rw [Array.getElem?_eq_none (by omega)] at hh; simp at hh
    · subst hv
      exact fun e => hne g' rfl e.symm
/-- A list of lists of bytes, each in memory of its own. -/
structure RowsX (w : World) (B : Nat) (v : Value) (ls : List (List Int)) (xs : List Value) : Prop where
  len : xs.length = ls.length
  row : w.ownsRow B 23 1 v ls.length xs
  own : ∀ i (h : i < ls.length), OwnB w B (xs[i]) (ls[i])
  out : ∀ i (h : i < ls.length) g, (xs[i]).ownBlock = some g → v.ownBlock ≠ some g
  sep : ∀ i j (hi : i < ls.length) (hj : j < ls.length), i ≠ j → ∀ g, (xs[i]).ownBlock = some g → (xs[j]).ownBlock ≠ some g
theorem RowsX.below {w w' : World} {B : Nat} {v : Value} {ls : List (List Int)} {xs : List Value} (h : RowsX w B v ls xs) (hb : Below w.heap.size w w') : RowsX w' B v ls xs :=
  ⟨h.len, owns_below h.row hb, fun i hi => (h.own i hi).below hb, h.out, h.sep⟩
theorem OwnB.lt {w : World} {B : Nat} {v : Value} {l : List Int} (h : OwnB w B v l) : ∀ g, v.ownBlock = some g → B ≤ g ∧ g < w.heap.size := fun g hg => World.ownsRow.lt h g hg
theorem rowsX_nil (w : World) (B : Nat) : RowsX w B (.slice none 0 0) [] [] := ⟨rfl, World.ownsRow_nil _ _ _ _, fun i h => by simp at h, fun i h => by simp at h, fun i j hi => by simp at hi⟩
/-- The list of slices and its length, as it lies. -/
theorem RowsX.form {w : World} {B : Nat} {v : Value} {ls : List (List Int)} {xs : List Value} (h : RowsX w B v ls xs) : ∃ p c, v = .slice p ls.length c := by
  rcases h.row.2 with ⟨rfl, h0⟩ | ⟨g, cap, cur, rfl, _⟩
  · exact ⟨none, 0, by rw [h0]⟩
  · exact ⟨_, _, rfl⟩
theorem RowsX.cell {w : World} {B : Nat} {p : Option Addr} {n c : Nat} {ls : List (List Int)} {xs : List Value} (h : RowsX w B (.slice p n c) ls xs) (i : Nat) (hi : i < ls.length) :
    ∃ g, p = some ⟨g, 0, none⟩ ∧ g < w.heap.size ∧ w.cell? ⟨g, i, none⟩ = some (xs[i]'(by rw [h.len]; exact hi)) := by
  rcases h.row.2 with ⟨h1, h0⟩ | ⟨g, cap, cur, h1, hb, hh, _⟩
  · omega
  · injection h1 with e1 e2 e3
    subst e1 e2 e3
    refine ⟨g, rfl, (World.ownsRow.lt h.row g rfl).2, ?_⟩
    rw [World.ownsRow.cellAt h.row i (by omega)]
    exact List.getElem?_eq_getElem _
theorem row_list {w0 w : World} {ops : Array Oper} {rest : List Oper} {o : Oper} {a : Act} {Q : Exit → Act → World → Prop} (hgd : o.guard = none) (s x : Operand)
    (ho : o.op = .call { callee := .builtin .append, args := #[s, x], argTypes := #[38, 38] }) (B : Nat) (v v1 : Value) (ls : List (List Int)) (xs : List Value) (l : List Int) (hs : a.eval s = v) (hown : RowsX w0 B v ls xs)
    (hb : Below w0.heap.size w0 w) (h1 : OwnB w w0.heap.size v1 l)
    (ad : Addr) (hx : a.eval x = .slice (some ad) 1 1) (hnews : ∀ j u, [v1][j]? = some u → w.cell? (ad.add j) = some u) (h1c : v1.oneCell' = true) (hlen : ls.length ≤ 1000000000) (hB : B ≤ w0.heap.size)
    (h : ∀ v' w', RowsX w' B v' (ls ++ [l]) (xs ++ [v1]) → Below B w w' → wpList Tryd.prog ops Q rest (a.put o.dst v') w') :
    wpList Tryd.prog ops Q (o :: rest) a w := by
  obtain ⟨i, hi, hz0, hz1, hz2⟩ := info_parts rowInfo
  have hw := hown.below hb
  refine wpList_append_own_at w hgd s x 38 ho B 23 i _ 1 24 Tryd.underlying38 hi hz0 hz1 hz2 rfl (by omega) _ ls.length xs hs hw.row ad 1 1 [v1] hx rfl hnews (by intro u hu; simp at hu; subst hu; exact h1c) (by unfold maxLen; omega) (by omega) (Nat.le_trans hB hb.size) ?_
  intro v' w' h2 h3 h4 h5
  have low : ∀ i (hi : i < ls.length) g, (xs[i]'(by rw [hown.len]; exact hi)).ownBlock = some g → g < w0.heap.size := fun i hi g hg => ((hown.own i hi).lt g hg).2
  have hv : ∀ g, v.ownBlock = some g → g < w0.heap.size := fun g hg => (World.ownsRow.lt hown.row g hg).2
  have hv' : ∀ g, v'.ownBlock = some g → v.ownBlock = some g ∨ g = w.heap.size := fun g hg => by
    rcases h5 with e | e
    · exact .inl (e ▸ hg)
    · rw [e] at hg; injection hg with hg; exact .inr hg.symm
  have l1 := h1.lt
  have hsz := hb.size
  refine h v' w' ⟨by simp [hown.len], by simpa using h2, ?_, ?_, ?_⟩ ⟨h3.os, h3.tape, h3.output, h3.size, fun k hk => h3.block k (by omega) (fun e => by have := (World.ownsRow.lt hown.row k e.symm).1; omega)⟩
  · intro i hi
    by_cases hl : i < ls.length
    · rw [List.getElem_append_left (by rw [hown.len]; exact hl), List.getElem_append_left hl]
      exact (hw.own i hl).other h3 (hw.out i hl)
    · have he : i = ls.length := by simp at hi; omega
      subst he
      rw [List.getElem_append_right (by rw [hown.len]; exact Nat.le_refl _), List.getElem_append_right (Nat.le_refl _)]
      simp
      refine ((h1.mono hB).other h3 fun g hg e => ?_)
      have := hv g e
      have := (l1 g hg).1
      omega
  · intro i hi g hg e
    by_cases hl : i < ls.length
    · rw [List.getElem_append_left (by rw [hown.len]; exact hl)] at hg
      rcases hv' g e with e | e
      · exact hw.out i hl g hg e
      · have := low i hl g hg; omega
    · have he : i = ls.length := by simp at hi; omega
      subst he
      rw [List.getElem_append_right (by rw [hown.len]; exact Nat.le_refl _)] at hg
      simp at hg
      have := l1 g hg
      rcases hv' g e with e | e
      · have := hv g e; omega
      · omega
  · intro i j hi hj hij g hg e
    by_cases hl : i < ls.length
    · rw [List.getElem_append_left (by rw [hown.len]; exact hl)] at hg
      by_cases hl' : j < ls.length
      · rw [List.getElem_append_left (by rw [hown.len]; exact hl')] at e
        exact hw.sep i j hl hl' hij g hg e
      · rw [List.getElem_append_right (by rw [hown.len]; omega)] at e
        simp at e
        have := low i hl g hg
        have := l1 g e
        omega
    · rw [List.getElem_append_right (by rw [hown.len]; omega)] at hg
      simp at hg
      have := l1 g hg
      by_cases hl' : j < ls.length
      · rw [List.getElem_append_left (by rw [hown.len]; exact hl')] at e
        have := low j hl' g e
        omega
      · simp at hi hj; omega
end Go.Proofs.YtfapaehjmbekpaaDoor
