import Derived.Test.YtehmbcpgendkjaaDoorMaj
import Derived.Maps.OwnSet
import Derived.StillTailTactics
namespace Go.Proofs.YtehmbcpgendkjaaDoor
open Go.RowKit Go.Maps
set_option linter.unusedSimpArgs false
set_option linter.unusedVariables false
/-- In block mb lies a map of n entries from numbers to sets: f. -/
def MapIs (w : World) (mb : Nat) (f : Int → Option Nat) (n : Nat) : Prop :=
  ∃ D : DataW Unit, w.ownsMap Tryd.prog 22 (plainElem Tryd.prog 26) mb n D ∧ Maps.size D = n ∧
    ∀ k, (Lit.int .u64 k).wf = true → Maps.has D (.int .u64 k) = (f k).isSome ∧ D.atKey (.int .u64 k) (.lit (.int .u32 0)) = .lit (.int .u32 ((f k).getD 0 : Nat)) ∧ (f k).getD 0 < 4294967296
theorem mlaw : Keyed Tryd.prog 22 := int_keyed Tryd.underlying22
theorem mzero (w : World) : (zeroValue 26).run Tryd.prog w = .ok (.int .u32 0) w := by kernel_rfl
theorem own_tight {H : Type} {w : World} {P : Program} {k : TypeId} {R : Value → Option (DataW H × List MemPlace)} {b n : Nat} {D : DataW H} (h : w.ownsMap P k R b n D) : w.ownsMap P k R b (Maps.size D) D := by
  obtain ⟨es, clock, hb, F, hs, rfl⟩ := h
  exact ⟨es, clock, hb, F, by simp [Maps.size, length_sorted], rfl⟩
theorem MapIs.kept {w w' : World} {mb : Nat} {f : Int → Option Nat} {n : Nat} {row : Option Nat} (h : MapIs w mb f n) (hg : w.grownBy w' row) (hne : some mb ≠ row) : MapIs w' mb f n := by
  obtain ⟨D, h1, h2, h3⟩ := h
  exact ⟨D, h1.kept hg hne, h2, h3⟩
theorem MapIs.below {w w' : World} {mb B : Nat} {f : Int → Option Nat} {n : Nat} (h : MapIs w mb f n) (hB : mb < B) (hb : Below B w w') : MapIs w' mb f n := by
  obtain ⟨D, ⟨es, clock, h1, F, hs, hD⟩, h2, h3⟩ := h
  exact ⟨D, ⟨es, clock, (hb.block mb hB).trans h1, F, hs, hD⟩, h2, h3⟩
theorem MapIs.lt {w : World} {mb : Nat} {f : Int → Option Nat} {n : Nat} (h : MapIs w mb f n) : mb < w.heap.size := by
  obtain ⟨D, h1, _⟩ := h
  exact h1.lt
theorem MapIs.look {w : World} {mb : Nat} {f : Int → Option Nat} {n : Nat} (h : MapIs w mb f n) (k : Int) (hk : (Lit.int .u64 k).wf = true) :
    (Instr.lookup 60 (.map (some mb)) (.int .u64 k) false).run Tryd.prog w = .ok (.int .u32 ((f k).getD 0 : Nat)) w := by
  obtain ⟨D, h1, h2, h3⟩ := h
  obtain ⟨c, hr, hat, hw⟩ := h1.lookup_int mlaw Tryd.underlying60 Tryd.underlying26 (mzero w) (keyOf_int_mk Tryd.underlying22 hk)
  obtain ⟨_, e, _⟩ := h3 k hk
  rw [e] at hat
  cases hat
  exact hr
theorem MapIs.lookOk {w : World} {mb : Nat} {f : Int → Option Nat} {n : Nat} (h : MapIs w mb f n) (k : Int) (hk : (Lit.int .u64 k).wf = true) :
    (Instr.lookup 60 (.map (some mb)) (.int .u64 k) true).run Tryd.prog w = .ok (.tuple #[.int .u32 ((f k).getD 0 : Nat), .bool (f k).isSome]) w := by
  obtain ⟨D, h1, h2, h3⟩ := h
  obtain ⟨v, ps, hr, hat⟩ := h1.look_ok mlaw Tryd.underlying60 (mzero w) (plainElem_int (H := Unit) Tryd.underlying26 (by decide)) (keyOf_int_mk Tryd.underlying22 hk)
  obtain ⟨e1, e2, _⟩ := h3 k hk
  rw [e2] at hat
  obtain ⟨a, rfl, ha, _⟩ := plainElem_int_inv Tryd.underlying26 hat
  simp only [Prod.mk.injEq] at ha
  obtain ⟨ha, _⟩ := ha
  cases ha
  rw [e1] at hr
  exact hr
theorem MapIs.len {w : World} {mb : Nat} {f : Int → Option Nat} {n : Nat} (h : MapIs w mb f n) (ty : TypeId) : (Builtin.len_ #[60] ty #[.map (some mb)]).run Tryd.prog w = .ok (.int .i64 (n : Nat)) w := by
  obtain ⟨D, h1, h2, h3⟩ := h
  have := h1.len Tryd.underlying60 ty
  rw [h2] at this
  exact this
/-- The map with one entry written. -/
def updM (f : Int → Option Nat) (k : Int) (v : Option Nat) : Int → Option Nat := fun x => if x = k then v else f x
theorem keylit (k : Int) : WideAt.IsKeyLit (.int .u64 k) := by trivial
/-- How many entries there are behind a write, behind a strike. -/
def putN (f : Int → Option Nat) (k : Int) (n : Nat) : Nat := if (f k).isSome then n else n + 1
def delN (f : Int → Option Nat) (k : Int) (n : Nat) : Nat := if (f k).isSome then n - 1 else n
theorem MapIs.put {w : World} {mb : Nat} {f : Int → Option Nat} {n : Nat} (h : MapIs w mb f n) (k : Int) (hk : (Lit.int .u64 k).wf = true) (v : Nat) (hv : v < 4294967296) (hn : n < maxLen) :
    ∃ w', (Instr.mapUpdate 60 (.map (some mb)) (.int .u64 k) (.int .u32 v)).run Tryd.prog w = .ok () w' ∧ MapIs w' mb (updM f k (some v)) (putN f k n) ∧ w.grownBy w' (some mb) := by
  obtain ⟨D, h1, h2, h3⟩ := h
  have wv : (Lit.int .u32 (v : Nat)).wf = true := by simp [Lit.wf, IntKind.min, IntKind.max, IntKind.signed, IntKind.bits]; omega
  obtain ⟨w', hr, h1', hg⟩ := h1.update mlaw Tryd.underlying60 hn (keyOf_int_mk Tryd.underlying22 hk) (plainElem_int (H := Unit) Tryd.underlying26 wv)
  have hs : Maps.size (D.put (.int .u64 k) (.lit (.int .u32 (v : Nat)))) = putN f k n := by
    unfold putN
    rw [size_put (h1.tidy mlaw), h2, (h3 k hk).1]
  refine ⟨w', hr, ⟨_, hs ▸ own_tight h1', hs, fun x hx => ?_⟩, hg⟩
  unfold updM
  by_cases e : x = k
  · subst e
    rw [if_pos rfl]
    exact ⟨has_put_same h1.isMap (keylit _) _, atKey_put_same h1.isMap (keylit _) _ _, hv⟩
  · rw [if_neg e]
    have hne : Lit.int .u64 x ≠ Lit.int .u64 k := fun h => e (by injection h)
    rw [has_put_other hne, atKey_put_other hne]
    exact h3 x hx
theorem MapIs.del {w : World} {mb : Nat} {f : Int → Option Nat} {n : Nat} (h : MapIs w mb f n) (k : Int) (hk : (Lit.int .u64 k).wf = true) (ty : TypeId) :
    ∃ w', (Builtin.delete_ #[60, 22] ty #[.map (some mb), .int .u64 k]).run Tryd.prog w = .ok (.tuple #[]) w' ∧ MapIs w' mb (updM f k none) (delN f k n) ∧ w.grownBy w' (some mb) := by
  obtain ⟨D, h1, h2, h3⟩ := h
  obtain ⟨w', hr, h1', ht⟩ := h1.drop mlaw Tryd.underlying60 (keyOf_int_mk Tryd.underlying22 hk) ty
  have hs : Maps.size (D.del (.int .u64 k)) = delN f k n := by
    unfold delN
    have := size_del (k := .int .u64 k) (h1.tidy mlaw)
    rw [h2, (h3 k hk).1] at this
    cases hx : (f k).isSome <;> rw [hx] at this <;> simp at this ⊢ <;> omega
  refine ⟨w', hr, ⟨_, hs ▸ own_tight h1', hs, fun x hx => ?_⟩, ht.grown⟩
  unfold updM
  by_cases e : x = k
  · subst e
    rw [if_pos rfl]
    exact ⟨has_del_same, atKey_del_same _, by decide⟩
  · rw [if_neg e]
    have hne : Lit.int .u64 x ≠ Lit.int .u64 k := fun h => e (by injection h)
    rw [has_del_other hne, atKey_del_other hne]
    exact h3 x hx
theorem MapIs.made (w : World) : MapIs (w.alloc (.map #[] 0)) w.heap.size (fun _ => none) 0 := by
  refine ⟨.map [], World.ownsMap_made w _ _ _, rfl, fun k hk => ⟨rfl, rfl, by simp⟩⟩
end Go.Proofs.YtehmbcpgendkjaaDoor
