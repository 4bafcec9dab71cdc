import Derived.Test.YtehmbcpgendkjaaDoorTalFn
import Derived.Test.YtehmbcpgendkjaaDoorOpen
namespace Go.Proofs.YtehmbcpgendkjaaDoor
open Go.RowKit
set_option linter.unusedSimpArgs false
set_option linter.unusedVariables false
theorem wp_gen {P : Program} {c : Code} {Q : Exit → Act → World → Prop} {a : Act} {w : World} (R : World → Prop) (h : R w) (k : ∀ w', R w' → c.wp P Q a w') : c.wp P Q a w := k w h
theorem wp_tail {P : Program} {id : Nat} {Q : Exit → Act → World → Prop} {a : Act} {w : World} {l : List Oper} (n : Nat) (hm : P.follows .mixedOrders = true) (hB : Region.lexTailB .any l.toArray n = true)
    (h : ∀ w2, w2 = w.drew → wpStill P l.toArray w2 (fun a' => wpList P l.toArray Q (l.drop n) a' w2) (l.take n) a) : (Code.region id l.toArray true).wp P Q a w :=
  wp_region_still_tail n hm hB (h _ rfl)
theorem cell_lt {w : World} {b o : Nat} {s : Option Nat} {v : Value} (h : w.cell? ⟨b, o, s⟩ = some v) : b < w.heap.size := by
  by_cases hlt : b < w.heap.size
  · exact hlt
  · unfold World.cell? at h
    rw [Array.getElem?_eq_none (show w.heap.size ≤ b by omega)] at h
    simp at h
/-- All but two blocks lie as they lay. -/
structure But2 (w w' : World) (p q : Nat) : Prop where
  os : w'.os = w.os
  tape : w'.tape = w.tape
  output : w'.output = w.output
  size : w.heap.size ≤ w'.heap.size
  block : ∀ k, k < w.heap.size → k ≠ p → k ≠ q → w'.heap[k]? = w.heap[k]?
theorem But2.refl (w : World) (p q : Nat) : But2 w w p q := ⟨rfl, rfl, rfl, Nat.le_refl _, fun _ _ _ _ => rfl⟩
theorem But2.trans {a b c : World} {p q : Nat} (h : But2 a b p q) (k : But2 b c p q) : But2 a c p q :=
  ⟨k.os.trans h.os, k.tape.trans h.tape, k.output.trans h.output, Nat.le_trans h.size k.size, fun i hi h1 h2 => (k.block i (Nat.lt_of_lt_of_le hi h.size) h1 h2).trans (h.block i hi h1 h2)⟩
theorem But2.of_below {w w' : World} {p q : Nat} (h : Below w.heap.size w w') : But2 w w' p q := ⟨h.os, h.tape, h.output, h.size, fun k hk _ _ => h.block k hk⟩
theorem But2.of_grown {w w' : World} {p q : Nat} (h : w.grownBy w' (some p)) : But2 w w' p q := ⟨h.os, h.tape, h.output, h.size, fun k hk h1 _ => h.block k hk (fun e => h1 (by injection e))⟩
theorem But2.setCell {w w' : World} {p q : Nat} (h : But2 w w' p q) (a : Addr) (v : Value) (ha : a.block = q ∨ w.heap.size ≤ a.block) : But2 w (w'.setCell a v) p q := by
  have hb := (Below.refl a.block w').setCell (p := a) (Nat.le_refl _) v
  exact ⟨hb.os.trans h.os, hb.tape.trans h.tape, hb.output.trans h.output, Nat.le_trans h.size hb.size, fun k hk h1 h2 => (Below.heap_setCell w' a v k (by omega)).trans (h.block k hk h1 h2)⟩
theorem But2.alloc {w w' : World} {p q : Nat} (h : But2 w w' p q) (o : Obj) : But2 w (w'.alloc o) p q := h.trans (But2.of_below (Below.alloc_ (Below.refl _ _) _))
theorem But2.drew {w w' : World} {p q : Nat} (h : But2 w w' p q) : But2 w w'.drew p q := h.trans (But2.of_below (Below.refl _ _).drew)
theorem But2.drewN {w w' : World} {p q n : Nat} (h : But2 w w' p q) : But2 w (w'.drewN n) p q := h.trans (But2.of_below (below_drewN (Below.refl _ _)))
theorem But2.cell {w w' : World} {p q : Nat} (h : But2 w w' p q) {a : Addr} (h0 : a.block < w.heap.size) (h1 : a.block ≠ p) (h2 : a.block ≠ q) : w'.cell? a = w.cell? a := World.cell?_of_block (h.block _ h0 h1 h2)
theorem But2.frozen {w w' : World} {p q : Nat} (h : But2 w w' p q) {a : Addr} (h0 : a.block < w.heap.size) (h1 : a.block ≠ p) (h2 : a.block ≠ q) : w'.frozen? a = w.frozen? a := World.frozen?_of_block (h.block _ h0 h1 h2)
theorem But2.below {w w' : World} {p q B : Nat} (h : But2 w w' p q) (hp : B ≤ p) (hq : B ≤ q) (hB : B ≤ w.heap.size) : Below B w w' := ⟨h.os, h.tape, h.output, h.size, fun k hk => h.block k (by omega) (by omega) (by omega)⟩
theorem GrpAt.but {w w' : World} {b p q : Nat} {c : Cfg} {n : Int} (h : GrpAt w b c n) (hg : But2 w w' p q) (h1 : b ≠ p) (h2 : b ≠ q) : GrpAt w' b c n := by
  have hc : ∀ o, w'.cell? ⟨b, o, none⟩ = w.cell? ⟨b, o, none⟩ := fun o => hg.cell h.lt h1 h2
  exact ⟨Nat.lt_of_lt_of_le h.lt hg.size, (hc 0).trans h.f, (hc 1).trans h.mb, (hc 2).trans h.dl, (hc 3).trans h.wd, (hc 4).trans h.ev, (hc 5).trans h.bt, (hc 6).trans h.ep, (hc 7).trans h.em, (hc 8).trans h.mn, (hc 9).trans h.ms, (hc 10).trans h.nodes⟩
theorem TalAt.but {w w' : World} {tb gb mb p q : Nat} (h : TalAt w tb gb mb) (hg : But2 w w' p q) (h1 : tb ≠ p) (h2 : tb ≠ q) : TalAt w' tb gb mb := by
  have hc : ∀ o, w'.cell? ⟨tb, o, none⟩ = w.cell? ⟨tb, o, none⟩ := fun o => hg.cell h.lt h1 h2
  exact ⟨Nat.lt_of_lt_of_le h.lt hg.size, (hc 0).trans h.g, (hc 1).trans h.m⟩
theorem Tab.but {w w' : World} {p q : Nat} (h : Tab w) (hg : But2 w w' p q) (h1 : 0 ≠ p) (h2 : 0 ≠ q) : Tab w' :=
  ⟨Nat.lt_of_lt_of_le h.1 hg.size, fun j hj => (hg.cell (a := ⟨0, j, none⟩) h.1 h1 h2).trans (h.2 j hj)⟩
/-- One word of a script. -/
structure W5 where
  kd : Int
  n : Int
  bn : Int
  bd : Int
  nd : Int
/-- The script: its words, one after the other. -/
def ScriptIs (w : World) (p : Option Addr) (ws : List W5) : Prop :=
  ∀ i (h : i < ws.length), ∃ b o, p = some ⟨b, o, none⟩ ∧ b < w.heap.size ∧ w.cell? ⟨b, o + i * 5, none⟩ = some (.int .i64 ws[i].kd) ∧ w.cell? ⟨b, o + i * 5 + 1, none⟩ = some (.int .u64 ws[i].n) ∧ w.cell? ⟨b, o + i * 5 + 2, none⟩ = some (.int .u64 ws[i].bn) ∧
    w.cell? ⟨b, o + i * 5 + 3, none⟩ = some (.int .i64 ws[i].bd) ∧ w.cell? ⟨b, o + i * 5 + 4, none⟩ = some (.int .i64 ws[i].nd) ∧ (Lit.int .i64 ws[i].kd).wf = true ∧ (Lit.int .u64 ws[i].n).wf = true ∧ (Lit.int .u64 ws[i].bn).wf = true ∧ (Lit.int .i64 ws[i].bd).wf = true ∧ (Lit.int .i64 ws[i].nd).wf = true
abbrev wordSh : Sh := .struct (.pair (.int .i64) (.pair (.int .u64) (.pair (.struct (.pair (.int .u64) (.pair (.int .i64) .unit))) (.pair (.int .i64) .unit))))
theorem cells5 {w : World} {a : Addr} {c0 c1 c2 c3 c4 : Value} (h : w.cells? 0 a 5 = some [c0, c1, c2, c3, c4]) :
    w.cell? (a.add 0) = some c0 ∧ w.cell? (a.add 1) = some c1 ∧ w.cell? (a.add 2) = some c2 ∧ w.cell? (a.add 3) = some c3 ∧ w.cell? (a.add 4) = some c4 := by
  unfold World.cells? at h
  rw [if_pos (Nat.zero_le _)] at h
  have hr : List.range 5 = [0, 1, 2, 3, 4] := rfl
  rw [hr] at h
  cases h0 : w.cell? (a.add 0) <;> cases h1 : w.cell? (a.add 1) <;> cases h2 : w.cell? (a.add 2) <;> cases h3 : w.cell? (a.add 3) <;> cases h4 : w.cell? (a.add 4) <;> simp [List.mapM_cons, h0, h1, h2, h3, h4] at h ⊢
  exact h
theorem word_cells {w : World} {a : Addr} {cs : List Value} (h : w.cells? 0 a 5 = some cs) (hs : wordSh.Holds w cs) : ∃ x : W5, w.cell? (a.add 0) = some (.int .i64 x.kd) ∧ w.cell? (a.add 1) = some (.int .u64 x.n) ∧ w.cell? (a.add 2) = some (.int .u64 x.bn) ∧
    w.cell? (a.add 3) = some (.int .i64 x.bd) ∧ w.cell? (a.add 4) = some (.int .i64 x.nd) ∧ (Lit.int .i64 x.kd).wf = true ∧ (Lit.int .u64 x.n).wf = true ∧ (Lit.int .u64 x.bn).wf = true ∧ (Lit.int .i64 x.bd).wf = true ∧ (Lit.int .i64 x.nd).wf = true := by
  obtain ⟨_, r1, rfl, ⟨kd, rfl, w0⟩, _, r2, rfl, ⟨n, rfl, w1⟩, _, r3, rfl, ⟨_, r4, rfl, ⟨bn, rfl, w2⟩, _, r5, rfl, ⟨bd, rfl, w3⟩, h5⟩, _, r6, rfl, ⟨nd, rfl, w4⟩, h6⟩ := hs
  obtain rfl : r5 = [] := h5
  obtain rfl : r6 = [] := h6
  obtain ⟨k0, k1, k2, k3, k4⟩ := cells5 (by simpa using h)
  exact ⟨⟨kd, n, bn, bd, nd⟩, k0, k1, k2, k3, k4, w0, w1, w2, w3, w4⟩
theorem script_open {w : World} {v : Value} (h : (Sh.slice wordSh).Holds w [v]) : ∃ (p : Option Addr) (ws : List W5) (cap : Nat), v = .slice p ws.length cap ∧ ws.length ≤ maxLen ∧ ScriptIs w p ws := by
  rcases h with h | ⟨a, len, cap, h1, h2, h3, h4⟩
  · refine ⟨none, [], 0, by simpa using h, by simp, fun i hi => by simp at hi⟩
  · have hex : ∀ i, ∃ x : W5, i < len → w.cell? ((a.add (i * 5)).add 0) = some (.int .i64 x.kd) ∧ w.cell? ((a.add (i * 5)).add 1) = some (.int .u64 x.n) ∧ w.cell? ((a.add (i * 5)).add 2) = some (.int .u64 x.bn) ∧
        w.cell? ((a.add (i * 5)).add 3) = some (.int .i64 x.bd) ∧ w.cell? ((a.add (i * 5)).add 4) = some (.int .i64 x.nd) ∧ (Lit.int .i64 x.kd).wf = true ∧ (Lit.int .u64 x.n).wf = true ∧ (Lit.int .u64 x.bn).wf = true ∧ (Lit.int .i64 x.bd).wf = true ∧ (Lit.int .i64 x.nd).wf = true := fun i => by
      by_cases hi : i < len
      · obtain ⟨cs, c1, c2⟩ := h4 i (by omega)
        obtain ⟨x, hx⟩ := word_cells c1 c2
        exact ⟨x, fun _ => hx⟩
      · exact ⟨⟨0, 0, 0, 0, 0⟩, fun h => absurd h hi⟩
    obtain ⟨F, hF⟩ := Classical.axiomOfChoice hex
    have hl : ((List.range len).map F).length = len := by simp
    refine ⟨some a, (List.range len).map F, cap, by rw [hl]; simpa using h1, by rw [hl]; omega, fun i hi => ?_⟩
    have hi' : i < len := by rw [hl] at hi; exact hi
    have hg : ((List.range len).map F)[i] = F i := by simp
    rw [hg]
    obtain ⟨b, o, s⟩ := a
    have h5 := hF i hi'
    have hsp : s = none := by
      have h6 := World.cell?_spot (hF 0 (by omega)).1
      simpa [Addr.add] using h6
    subst hsp
    have hz : (⟨b, o, none⟩ : Addr).add (i * 5) = ⟨b, o + i * 5, none⟩ := by
      unfold Addr.add
      split
      · rename_i h7; simp [h7]
      · rfl
    rw [hz] at h5
    obtain ⟨k0, k1, k2, k3, k4, w0, w1, w2, w3, w4⟩ := h5
    exact ⟨b, o, rfl, cell_lt k0, k0, k1, k2, k3, k4, w0, w1, w2, w3, w4⟩
end Go.Proofs.YtehmbcpgendkjaaDoor
