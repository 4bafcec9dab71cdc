import Derived.Test.YtehmbcpgendkjaaDoorCount
import Derived.Sort.LoopGhostIn
import Derived.LoopNIn
import Derived.LoopN
namespace Go.Proofs.YtehmbcpgendkjaaDoor
open Go.RowKit Go.Shelf
set_option linter.unusedSimpArgs false
set_option linter.unusedVariables false
/-- A range over the members of a set, in a plain walk. 'upd': what the round's slots hold when the body begins. -/
theorem wp_range_members {g : Operand} {p : Tmp} {assign body : Code} {Q : Exit → Act → World → Prop} {a : Act} {w : World} {bs s n₀ : Nat}
    (hg : a.eval g = .func (.func 49) #[] #[.pointer (some ⟨bs, 0, none⟩)]) (hs : s < 4294967296) (hbs : bs < w.heap.size) (hn₀ : n₀ ≤ w.heap.size)
    (hcell : w.cell? ⟨bs, 0, none⟩ = some (.int .u32 s)) (hT : Tab w) (htab : 0 < n₀)
    (I : List (Fin 32) → World → Prop) (Ix : Code → List (Fin 32) → World → Prop) (hI : OwnFrom w.heap.size I) (hIx : ∀ c, OwnFrom w.heap.size (Ix c)) (h0 : I [] w)
    (upd : Array Value → Fin 32 → Array Value)
    (hassign : ∀ (l : Nat) (x : Fin 32) (W : World) (K : Act → World → Prop), K { tmps := upd a.tmps x, defers := [] } W →
      assign.wpIn (Fence.wide.inRound l) 7 Tryd.prog (Exit.then K (fun _ _ _ => False)) { tmps := a.tmps.setIfInBounds p (.int .i64 (x.val : Int)), defers := [] } W)
    (hbody : ∀ (l : Nat) (pre : List (Fin 32)) (x : Fin 32) (W : World), I pre W → pre.length < 32 → body.wpIn (Fence.wide.inRound l) 7 Tryd.prog (ownPostK (Below n₀) I Ix (pre ++ [x]) W) { tmps := upd a.tmps x, defers := [] } W)
    (hdone : ∀ (D : Nat) (xs : List (Fin 32)) (W : World), w.heap.size ≤ D → xs.map Fin.val = elems s → I xs W → W.heap[D]? = some (.deferred (some [])) → Q .normal { a with defers := { target := .collected D, args := #[] } :: a.defers } W)
    (hstop : ∀ (D : Nat) (c : Code) (pre : List (Fin 32)) (W : World), w.heap.size ≤ D → pre.map Fin.val <+: elems s → Ix c pre W → W.heap[D]? = some (.deferred (some [])) → c.wp Tryd.prog Q { a with defers := { target := .collected D, args := #[] } :: a.defers } W) :
    (Code.rangeFunc g #[p] assign body).wp Tryd.prog Q a w := by
  refine (wpIn_wide (n := 9)).1 ?_
  refine wpIn_rangeFunc_ownF rfl (by omega) (gf := 49) (lb := #[.pointer (some ⟨bs, 0, none⟩)]) hg trivial (enters_of Tryd.func49 (by kernel_rfl) rfl)
    (members_stops 8 bs n₀ s hs (by omega) w hbs hn₀ hcell hT htab) belowK_t (belowK_b hn₀) (Below.refl _ _) (fun _ => rfl) I Ix hI hIx h0
    (fun x => { tmps := upd a.tmps x, defers := [] }) ?_ hbody hdone (fun D c pre W h1 h2 h3 h4 => wpIn_wide.2 (hstop D c pre W h1 h2 h3 h4))
  intro l x W K hK
  have h := hassign l x W K hK
  simp only [encN, zip1, fold1]
  exact h
theorem heap_kept {A B : World} {row : Option Nat} {k n : Nat} {o : Obj} (hg : A.grownBy B row) (hr : ∀ r, row = some r → n ≤ r ∧ ∃ o : Obj, A.heap[r]? = some o ∧ o.isCells = false) (hk : k < n) (h : A.heap[k]? = some o) : B.heap[k]? = some o :=
  (hg.block k (Array.getElem?_eq_some_iff.1 h).1 (fun e => by have := (hr k e.symm).1; omega)).trans h
end Go.Proofs.YtehmbcpgendkjaaDoor
