/- A law for the walk: a whole row stored into the block that was made last. -/
import Derived.Test.YtehmbcpgendkjaaDoorBase
import Derived.Deep.MidRow
import Derived.Laws.NewBlocks
namespace Go.Proofs.YtehmbcpgendkjaaDoor
open Go.RowKit
def foldSet (C : Array Value) : Nat → List Value → Array Value
  | _, [] => C
  | o, v :: r => foldSet (C.setIfInBounds o v) (o + 1) r
theorem foldSet_get (vs : List Value) : ∀ (o : Nat) (C : Array Value), (foldSet C o vs).size = C.size ∧ ∀ j, (foldSet C o vs)[j]? = if o ≤ j ∧ j < o + vs.length ∧ j < C.size then vs[j - o]? else C[j]? := by
  induction vs with
  | nil => intro o C; exact ⟨rfl, fun j => by rw [if_neg (by simp; omega)]; rfl⟩
  | cons v r ih =>
    intro o C
    obtain ⟨h1, h2⟩ := ih (o + 1) (C.setIfInBounds o v)
    refine ⟨by simpa [foldSet] using h1, fun j => ?_⟩
    show (foldSet (C.setIfInBounds o v) (o + 1) r)[j]? = _
    rw [h2 j]
    simp only [Array.size_setIfInBounds, List.length_cons]
    by_cases e : j = o
    · subst e
      rw [if_neg (by omega)]
      by_cases h : j < C.size
      · rw [if_pos (by omega)]; simp [h]
      · rw [if_neg (by omega)]; simp [h]
    · by_cases h : o + 1 ≤ j ∧ j < o + 1 + r.length ∧ j < C.size
      · rw [if_pos h, if_pos (by omega), show j - o = (j - (o + 1)) + 1 from by omega]; simp
      · rw [if_neg h, if_neg (by omega), Array.getElem?_setIfInBounds_ne (by omega)]
theorem foldSet_all (C : Array Value) (vs : List Value) (h : vs.length = C.size) : foldSet C 0 vs = vs.toArray := by
  obtain ⟨h1, h2⟩ := foldSet_get vs 0 C
  refine Array.ext (by simp [h1, h]) fun i hi hj => ?_
  have h3 := h2 i
  rw [h1] at hi
  rw [if_pos (by omega)] at h3
  rw [Array.getElem?_eq_getElem (by omega)] at h3
  simp at hj
  simpa [hj] using h3
theorem setCells_new (w : World) (t : TypeId) : ∀ (vs : List Value) (o : Nat) (C : Array Value), (w.alloc (.cells C t)).setCells w.heap.size o vs = w.alloc (.cells (foldSet C o vs) t)
  | [], _, _ => rfl
  | v :: r, o, C => by
    show ((w.alloc (.cells C t)).setCell ⟨w.heap.size, o, none⟩ v).setCells w.heap.size (o + 1) r = _
    rw [World.setCell_alloc_at _ _ _ _ _ rfl, setCells_new w t r (o + 1) _]
    rfl
theorem there_new (w : World) (C : Array Value) (t : TypeId) : (w.alloc (.cells C t)).there w.heap.size 0 C.size := fun j hj => by
  rw [Nat.zero_add]
  exact ⟨by rw [World.cell?_alloc_new]; simp [hj], World.frozen?_alloc_new _ _ _ _⟩
theorem heap_new' {w : World} {o : Obj} {g : Nat} (h : g = w.heap.size) : (w.alloc o).heap[g]? = some o := by
  subst h
  exact heap_alloc_new w o
/-- A whole row stored into the newest block. -/
theorem wpList_store_new {P : Program} {ops : Array Oper} {rest : List Oper} {op : Oper} {a : Act} {w : World} {Q : Exit → Act → World → Prop} {C : Array Value} {t : TypeId} (hgd : op.guard = none) (ty : TypeId) (x y : Operand) (ho : op.op = .store ty x y)
    (b : Nat) (hb : b = w.heap.size) (cells : Array Value) (hx : a.eval x = .pointer (some ⟨b, 0, none⟩)) (hy : a.eval y = .agg cells)
    (hs : cells.size = C.size) (hi : (P.info? ty).map (·.size) = some cells.size) (h1 : cells.all (·.oneCell') = true)
    (h : wpList P ops Q rest (a.put op.dst undef) (w.alloc (.cells cells t))) : wpList P ops Q (op :: rest) a (w.alloc (.cells C t)) := by
  subst hb
  refine wpList_store_mid hgd ty x y ho w.heap.size 0 cells hx hy ?_ hi h1 ?_
  · rw [hs]; exact there_new w C t
  · rw [setCells_new, foldSet_all _ _ (by simpa using hs)]
    simpa using h
/-- A struct or an array built of parts, by a fact on the build. -/
theorem wpList_build {P : Program} {ops : Array Oper} {rest : List Oper} {op : Oper} {a : Act} {w : World} {Q : Exit → Act → World → Prop} (hgd : op.guard = none) (t : TypeId) (ps : Array (Nat × Operand)) (ho : op.op = .build t ps)
    (vs : Array (Nat × Value)) (hv : (ps.map fun (i, x) => (i, a.eval x)) = vs) (v : Value) (hr : (Instr.build t vs).run P w = .ok v w)
    (h : wpList P ops Q rest (a.put op.dst v) w) : wpList P ops Q (op :: rest) a w :=
  wpList_plain hgd fun K hK => by
    unfold Oper.wp execOp
    simp only [ho, hv, Sem.run_bind, Sem.run_pure, hr, Result.andThen_ok]
    exact hK _ _ h
/-- A new variable, by a fact on the allocation. -/
theorem wpList_alloc {P : Program} {ops : Array Oper} {rest : List Oper} {op : Oper} {a : Act} {w w' : World} {Q : Exit → Act → World → Prop} (hgd : op.guard = none) (t : TypeId) (ho : op.op = .alloc t)
    (v : Value) (hr : (Instr.alloc t true (.tuple #[])).run P w = .ok v w')
    (h : wpList P ops Q rest (a.put op.dst v) w') : wpList P ops Q (op :: rest) a w :=
  wpList_plain hgd fun K hK => by
    unfold Oper.wp execOp
    simp only [ho, Sem.run_bind, Sem.run_pure, hr, Result.andThen_ok]
    exact hK _ _ h
end Go.Proofs.YtehmbcpgendkjaaDoor
