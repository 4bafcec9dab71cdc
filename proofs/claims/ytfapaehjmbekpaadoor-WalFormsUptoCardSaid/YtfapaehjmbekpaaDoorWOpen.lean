import Derived.Test.YtfapaehjmbekpaaDoorWRd
import Derived.Test.YtfapaehjmbekpaaDoorOpen
namespace Go.Proofs.YtfapaehjmbekpaaDoor
open Go.RowKit
set_option linter.unusedSimpArgs false
set_option linter.unusedVariables false
theorem cells_one {w : World} {a : Addr} {cs : List Value} (h : w.cells? 0 a 1 = some cs) : ∃ u, cs = [u] ∧ w.cell? a = some u := by
  unfold World.cells? at h
  rw [if_pos (Nat.zero_le _), show List.range 1 = [0] from rfl] at h
  cases hc : w.cell? a with
  | none =>
    have h_ : w.cell? (a.add 0) = none := hc
    simp [List.mapM_cons, h_] at h
  | some u =>
    have h_ : w.cell? (a.add 0) = some u := hc
    simp [List.mapM_cons, h_] at h
    exact ⟨u, h.symm, rfl⟩
theorem cell_lt' {w : World} {b o : Nat} {s : Option Nat} {v : Value} (h : w.cell? ⟨b, o, s⟩ = some v) : b < w.heap.size := by
  by_cases hlt : b < w.heap.size
  · exact hlt
  · unfold World.cell? at h
    rw [Array.getElem?_eq_none (show w.heap.size ≤ b by omega)] at h
    simp at h
theorem add_none (b o j : Nat) : (⟨b, o, none⟩ : Addr).add j = ⟨b, o + j, none⟩ := by
  unfold Addr.add
  split
  · rename_i h7; simp [h7]
  · rfl
theorem bytes_open {w : World} {v : Value} (h : (Sh.slice (.int .u8)).Holds w [v]) : ∃ q l c, v = .slice q l.length c ∧ l.length ≤ c ∧ (q = none → c = 0) ∧ RdB w q l ∧ Byt l ∧ c ≤ maxLen := by
  rcases h with h | ⟨a, len, cap, h1, h2, h3, h4⟩
  · exact ⟨none, [], 0, by simpa using h, by simp, fun _ => rfl, fun j hj => by simp at hj, fun j hj => by simp at hj, by simp⟩
  · obtain rfl : v = .slice (some a) len cap := by simpa using h1
    have hex : ∀ i, ∃ x : Int, i < len → w.cell? (a.add i) = some (.int .u8 x) ∧ 0 ≤ x ∧ x < 256 := fun i => by
      by_cases hi : i < len
      · obtain ⟨cs, c1, x, rfl, hx⟩ := h4 i (by omega)
        simp only [Sh.size, Nat.mul_one] at c1
        obtain ⟨u, e, hu⟩ := cells_one c1
        injection e with e
        subst e
        refine ⟨x, fun _ => ⟨hu, ?_⟩⟩
        simp [Lit.wf, IntKind.min, IntKind.max, IntKind.signed, IntKind.bits] at hx; omega
      · exact ⟨0, fun h => absurd h hi⟩
    obtain ⟨F, hF⟩ := Classical.axiomOfChoice hex
    refine ⟨some a, (List.range len).map F, cap, by simp, by simpa using h2, (fun h => by cases h), fun j hj => ?_, fun j hj => ?_, h3⟩
    · have hj' : j < len := by simpa using hj
      have hs := World.cell?_spot (hF 0 (by omega)).1
      obtain ⟨b, o, s⟩ := a
      obtain rfl : s = none := hs
      have hc := (hF j hj').1
      rw [add_none] at hc
      exact ⟨b, o, rfl, cell_lt' hc, by rw [hc]; simp⟩
    · have hj' : j < len := by simpa using hj
      simpa using (hF j hj').2
theorem rows_open {w : World} {v : Value} (h : (Sh.slice (.slice (.int .u8))).Holds w [v]) : ∃ p ls c, v = .slice p ls.length c ∧ ls.length ≤ c ∧ RdRows w p ls ∧ ∀ b ∈ ls, Byt b := by
  rcases h with h | ⟨a, len, cap, h1, h2, h3, h4⟩
  · exact ⟨none, [], 0, by simpa using h, by simp, fun j hj => by simp at hj, fun b hb => by simp at hb⟩
  · obtain rfl : v = .slice (some a) len cap := by simpa using h1
    have hex : ∀ i, ∃ x : Option Addr × List Int × Nat, i < len → w.cell? (a.add i) = some (.slice x.1 x.2.1.length x.2.2) ∧ x.2.1.length ≤ x.2.2 ∧ (x.1 = none → x.2.2 = 0) ∧ RdB w x.1 x.2.1 ∧ Byt x.2.1 := fun i => by
      by_cases hi : i < len
      · obtain ⟨cs, c1, hx⟩ := h4 i (by omega)
        simp only [Sh.size, Nat.mul_one] at c1
        obtain ⟨u, rfl, hu⟩ := cells_one c1
        obtain ⟨q, l, c, rfl, g1, g2, g3, g4, _⟩ := bytes_open hx
        exact ⟨(q, l, c), fun _ => ⟨hu, g1, g2, g3, g4⟩⟩
      · exact ⟨(none, [], 0), fun h => absurd h hi⟩
    obtain ⟨F, hF⟩ := Classical.axiomOfChoice hex
    refine ⟨some a, (List.range len).map fun i => (F i).2.1, cap, by simp, by simpa using h2, fun j hj => ?_, fun b hb => ?_⟩
    · have hj' : j < len := by simpa using hj
      have hs := World.cell?_spot (hF 0 (by omega)).1
      obtain ⟨b, o, s⟩ := a
      obtain rfl : s = none := hs
      obtain ⟨hc, g1, g2, g3, g4⟩ := hF j hj'
      rw [add_none] at hc
      have e : ((List.range len).map fun i => (F i).2.1)[j] = (F j).2.1 := by simp
      rw [e]
      exact ⟨b, o, (F j).1, (F j).2.2, rfl, cell_lt' hc, hc, g1, g2, g3⟩
    · obtain ⟨i, hi, rfl⟩ := List.mem_map.1 hb
      exact (hF i (by simpa using hi)).2.2.2.2
end Go.Proofs.YtfapaehjmbekpaaDoor
