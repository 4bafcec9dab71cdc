import Derived.Test.YtehmbcpgendkjaaDoorTalFn
import Derived.DeepKeys4
namespace Go.Proofs.YtehmbcpgendkjaaDoor
open Go.RowKit Go.Maps
set_option linter.unusedSimpArgs false
set_option linter.unusedVariables false
/-- A ballot as a key. -/
def KWf (k : Int × Int) : Prop := (Lit.int .u64 k.1).wf = true ∧ (Lit.int .i64 k.2).wf = true
def klB (k : Int × Int) : Lit := .string (keyBytes [.int .u64 k.1, .int .i64 k.2])
theorem balType : Tryd.prog.keyType 49 = true := by kernel_rfl
theorem balDeep : Tryd.prog.keyTypeAt 3 49 = true := by kernel_rfl
theorem balRow : (49 : TypeId) < Tryd.prog.types.size := of_decide_eq_true (by kernel_rfl)
theorem laidOutB_ : laidOutB Tryd.prog = true := by kernel_rfl
theorem balLaw : Keyed Tryd.prog 49 := Keyed.of_law (deep_law_laid laidOutB_ (m := 3) (by omega) balRow balDeep (by rw [Tryd.underlying49]))
theorem balCells : Tryd.prog.cellsOf 49 = 2 := by kernel_rfl
theorem u64Cells : Tryd.prog.cellsOf 22 = 1 := by kernel_rfl
theorem intCells : Tryd.prog.cellsOf 3 = 1 := by kernel_rfl
theorem predSize (s : Nat) (h : 0 < s) : ∃ D, s + 1 = D + 2 := ⟨s - 1, by omega⟩
theorem balSize : ∃ D, Tryd.prog.types.size + 1 = D + 2 := predSize _ (Nat.lt_of_le_of_lt (Nat.zero_le _) balRow)
theorem keyLitsB (D : Nat) (k : Int × Int) (h : KWf k) : Tryd.prog.keyLits (D + 2) 49 [.int .u64 k.1, .int .i64 k.2] = some [.int .u64 k.1, .int .i64 k.2] := by
  have h1 := h.1
  have h2 := h.2
  unfold Program.keyLits
  simp only [Tryd.underlying49, balCells]
  simp [u64Cells, intCells]
  unfold Program.keyLits
  simp [Tryd.underlying22, Tryd.underlying3, h1, h2]
theorem hkeyB (k : Int × Int) (h : KWf k) : keyOf Tryd.prog 49 (.agg #[.int .u64 k.1, .int .i64 k.2]) = some (klB k) := by
  obtain ⟨D, hD⟩ := balSize
  unfold keyOf
  rw [Tryd.underlying49, hD]
  dsimp only
  rw [show (Value.agg #[Value.int .u64 k.1, Value.int .i64 k.2]).cells.toList = [.int .u64 k.1, .int .i64 k.2] from rfl, keyLitsB D k h]
  rw [if_pos (by simp [balType, Value.formed, Tryd.underlying49, balCells])]
  rfl
/-- A ballot's value. -/
abbrev keyV (k : Int × Int) : Value := .agg #[.int .u64 k.1, .int .i64 k.2]
theorem klB_ne {x k : Int × Int} (hx : KWf x) (hk : KWf k) (h : x ≠ k) : klB x ≠ klB k := fun e => by
  have := balLaw.inj (hkeyB x hx) (e ▸ hkeyB k hk)
  simp at this
  exact h (Prod.ext this.1 this.2)
theorem keylit' (k : Int × Int) : WideAt.IsKeyLit (klB k) := by trivial
/-- In block mb lies a map of n entries from numbers to sets: f. -/
def MapB (w : World) (mb : Nat) (f : Int × Int → Option Nat) (n : Nat) : Prop :=
  ∃ D : DataW Unit, w.ownsMap Tryd.prog 49 (plainElem Tryd.prog 26) mb n D ∧ Maps.size D = n ∧
    ∀ k, KWf k → Maps.has D (klB k) = (f k).isSome ∧ D.atKey (klB k) (.lit (.int .u32 0)) = .lit (.int .u32 ((f k).getD 0 : Nat)) ∧ (f k).getD 0 < 4294967296
theorem MapB.kept {w w' : World} {mb : Nat} {f : Int × Int → Option Nat} {n : Nat} {row : Option Nat} (h : MapB w mb f n) (hg : w.grownBy w' row) (hne : some mb ≠ row) : MapB w' mb f n := by
  obtain ⟨D, h1, h2, h3⟩ := h
  exact ⟨D, h1.kept hg hne, h2, h3⟩
theorem MapB.below {w w' : World} {mb B : Nat} {f : Int × Int → Option Nat} {n : Nat} (h : MapB w mb f n) (hB : mb < B) (hb : Below B w w') : MapB w' mb f n := by
  obtain ⟨D, ⟨es, clock, h1, F, hs, hD⟩, h2, h3⟩ := h
  exact ⟨D, ⟨es, clock, (hb.block mb hB).trans h1, F, hs, hD⟩, h2, h3⟩
theorem MapB.lt {w : World} {mb : Nat} {f : Int × Int → Option Nat} {n : Nat} (h : MapB w mb f n) : mb < w.heap.size := by
  obtain ⟨D, h1, _⟩ := h
  exact h1.lt
theorem MapB.look {w : World} {mb : Nat} {f : Int × Int → Option Nat} {n : Nat} (h : MapB w mb f n) (k : Int × Int) (hk : KWf k) :
    (Instr.lookup 103 (.map (some mb)) (keyV k) false).run Tryd.prog w = .ok (.int .u32 ((f k).getD 0 : Nat)) w := by
  obtain ⟨D, h1, h2, h3⟩ := h
  obtain ⟨c, hr, hat, hw⟩ := h1.lookup_int balLaw Tryd.underlying103 Tryd.underlying26 (mzero w) (hkeyB k hk)
  obtain ⟨_, e, _⟩ := h3 k hk
  rw [e] at hat
  cases hat
  exact hr
theorem MapB.lookOk {w : World} {mb : Nat} {f : Int × Int → Option Nat} {n : Nat} (h : MapB w mb f n) (k : Int × Int) (hk : KWf k) :
    (Instr.lookup 103 (.map (some mb)) (keyV k) true).run Tryd.prog w = .ok (.tuple #[.int .u32 ((f k).getD 0 : Nat), .bool (f k).isSome]) w := by
  obtain ⟨D, h1, h2, h3⟩ := h
  obtain ⟨v, ps, hr, hat⟩ := h1.look_ok balLaw Tryd.underlying103 (mzero w) (plainElem_int (H := Unit) Tryd.underlying26 (by decide)) (hkeyB k hk)
  obtain ⟨e1, e2, _⟩ := h3 k hk
  rw [e2] at hat
  obtain ⟨a, rfl, ha, _⟩ := plainElem_int_inv Tryd.underlying26 hat
  simp only [Prod.mk.injEq] at ha
  obtain ⟨ha, _⟩ := ha
  cases ha
  rw [e1] at hr
  exact hr
theorem MapB.len {w : World} {mb : Nat} {f : Int × Int → Option Nat} {n : Nat} (h : MapB w mb f n) (ty : TypeId) : (Builtin.len_ #[103] ty #[.map (some mb)]).run Tryd.prog w = .ok (.int .i64 (n : Nat)) w := by
  obtain ⟨D, h1, h2, h3⟩ := h
  have := h1.len Tryd.underlying103 ty
  rw [h2] at this
  exact this
/-- The map with one entry written. -/
def updB (f : Int × Int → Option Nat) (k : Int × Int) (v : Option Nat) : Int × Int → Option Nat := fun x => if x = k then v else f x
/-- How many entries there are behind a write, behind a strike. -/
def putC (f : Int × Int → Option Nat) (k : Int × Int) (n : Nat) : Nat := if (f k).isSome then n else n + 1
def delC (f : Int × Int → Option Nat) (k : Int × Int) (n : Nat) : Nat := if (f k).isSome then n - 1 else n
theorem MapB.put {w : World} {mb : Nat} {f : Int × Int → Option Nat} {n : Nat} (h : MapB w mb f n) (k : Int × Int) (hk : KWf k) (v : Nat) (hv : v < 4294967296) (hn : n < maxLen) :
    ∃ w', (Instr.mapUpdate 103 (.map (some mb)) (keyV k) (.int .u32 v)).run Tryd.prog w = .ok () w' ∧ MapB w' mb (updB f k (some v)) (putC f k n) ∧ w.grownBy w' (some mb) := by
  obtain ⟨D, h1, h2, h3⟩ := h
  have wv : (Lit.int .u32 (v : Nat)).wf = true := by simp [Lit.wf, IntKind.min, IntKind.max, IntKind.signed, IntKind.bits]; omega
  obtain ⟨w', hr, h1', hg⟩ := h1.update balLaw Tryd.underlying103 hn (hkeyB k hk) (plainElem_int (H := Unit) Tryd.underlying26 wv)
  have hs : Maps.size (D.put (klB k) (.lit (.int .u32 (v : Nat)))) = putC f k n := by
    unfold putC
    rw [size_put (h1.tidy balLaw), h2, (h3 k hk).1]
  refine ⟨w', hr, ⟨_, hs ▸ own_tight h1', hs, fun x hx => ?_⟩, hg⟩
  unfold updB
  by_cases e : x = k
  · subst e
    rw [if_pos rfl]
    exact ⟨has_put_same h1.isMap (keylit' _) _, atKey_put_same h1.isMap (keylit' _) _ _, hv⟩
  · rw [if_neg e]
    have hne : klB x ≠ klB k := klB_ne hx hk e
    rw [has_put_other hne, atKey_put_other hne]
    exact h3 x hx
theorem MapB.del {w : World} {mb : Nat} {f : Int × Int → Option Nat} {n : Nat} (h : MapB w mb f n) (k : Int × Int) (hk : KWf k) (ty : TypeId) :
    ∃ w', (Builtin.delete_ #[103, 49] ty #[.map (some mb), keyV k]).run Tryd.prog w = .ok (.tuple #[]) w' ∧ MapB w' mb (updB f k none) (delC f k n) ∧ w.grownBy w' (some mb) := by
  obtain ⟨D, h1, h2, h3⟩ := h
  obtain ⟨w', hr, h1', ht⟩ := h1.drop balLaw Tryd.underlying103 (hkeyB k hk) ty
  have hs : Maps.size (D.del (klB k)) = delC f k n := by
    unfold delC
    have := size_del (k := klB k) (h1.tidy balLaw)
    rw [h2, (h3 k hk).1] at this
    cases hx : (f k).isSome <;> rw [hx] at this <;> simp at this ⊢ <;> omega
  refine ⟨w', hr, ⟨_, hs ▸ own_tight h1', hs, fun x hx => ?_⟩, ht.grown⟩
  unfold updB
  by_cases e : x = k
  · subst e
    rw [if_pos rfl]
    exact ⟨has_del_same, atKey_del_same _, by decide⟩
  · rw [if_neg e]
    have hne : klB x ≠ klB k := klB_ne hx hk e
    rw [has_del_other hne, atKey_del_other hne]
    exact h3 x hx
theorem MapB.made (w : World) : MapB (w.alloc (.map #[] 0)) w.heap.size (fun _ => none) 0 := by
  refine ⟨.map [], World.ownsMap_made w _ _ _, rfl, fun k hk => ⟨rfl, rfl, by simp⟩⟩
end Go.Proofs.YtehmbcpgendkjaaDoor
