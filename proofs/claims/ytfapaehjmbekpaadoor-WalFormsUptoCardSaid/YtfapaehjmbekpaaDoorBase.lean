/- Small facts that the walks of this seat share; no program is in sight. -/
import Derived.WalkKit
import Derived.WalkSpells
import Derived.WalkLawsBesides
import Derived.Deep.QuietTactic
import Derived.BigQuiet
import Derived.Lib.Hide
namespace Go.Proofs.YtfapaehjmbekpaaDoor
open Go.RowKit
set_option linter.unusedVariables false
set_option linter.unusedSimpArgs false

theorem i64_m1 : IntKind.i64.wrap (-1) = -1 := by decide
theorem i64_0 : IntKind.i64.wrap 0 = 0 := by decide
theorem i64_1 : IntKind.i64.wrap 1 = 1 := by decide
/-- Order of two numbers as Go's cmp tells it. -/
def cmpI (a b : Int) : Int := if a < b then -1 else if b < a then 1 else 0
theorem cmpI_lt {a b : Int} (h : a < b) : cmpI a b = -1 := by unfold cmpI; rw [if_pos h]
theorem cmpI_gt {a b : Int} (h : b < a) : cmpI a b = 1 := by unfold cmpI; rw [if_neg (by omega), if_pos h]
theorem cmpI_eq (a : Int) : cmpI a a = 0 := by unfold cmpI; rw [if_neg (by omega), if_neg (by omega)]

/-- A region that draws its order, whose operations read and whose callees make at most new memory: one walk of the lexical order serves every order. -/
theorem wp_region_below {P : Program} {id : Nat} {Q : Exit → Act → World → Prop} {a : Act} {w : World} {l : List Oper} (hm : P.follows .mixedOrders = true) (hB : Region.lexB .any l.toArray = true)
    (h : wpQuiet P l.toArray (Below w.heap.size w) (fun a' => ∀ w', Below w.heap.size w w' → Q .normal a' w') l a) : (Code.region id l.toArray true).wp P Q a w :=
  wp_region_quiet (C := Below w.heap.size w) hm hB (Below.refl _ _).drew (by simpa using h)

theorem grow_cells {B : Nat} {w w' : World} {row : Option Nat} (h : w.grownBy w' row) (hr : ∀ k, row = some k → B ≤ k) (hB : B ≤ w.heap.size) :
    (∀ b o, b < B → w'.cell? ⟨b, o, none⟩ = w.cell? ⟨b, o, none⟩) ∧ (∀ b o, b < B → w'.frozen? ⟨b, o, none⟩ = w.frozen? ⟨b, o, none⟩) :=
  ⟨fun b o hb => World.cell?_of_block (h.block b (by omega) (fun e => by have := hr b e.symm; omega)), fun b o hb => World.frozen?_of_block (h.block b (by omega) (fun e => by have := hr b e.symm; omega))⟩
theorem frozen_alloc_lt' (w : World) (o : Obj) (b i : Nat) (h : b < w.heap.size) : (w.alloc o).frozen? ⟨b, i, none⟩ = w.frozen? ⟨b, i, none⟩ :=
  World.frozen?_of_block (Below.heap_alloc w o b h)
theorem below_drewN {B n : Nat} {a w : World} (h : Below B a w) : Below B a (w.drewN n) := ⟨h.os, h.tape, h.output, h.size, h.block⟩
theorem Below.alloc_ {a w : World} (h : Below a.heap.size a w) (o : Obj) : Below a.heap.size a (w.alloc o) := h.alloc h.size o
theorem Below.on {a b c : World} (h : Below a.heap.size a b) (k : Below b.heap.size b c) : Below a.heap.size a c := h.trans (k.mono h.size)
theorem quiet_mk {P : Program} {o : Oper} {a : Act} {C : World → Prop} {K : Act → Prop} {v : Value} (h1 : ∀ w, C w → o.quietAt P a C w v) (h2 : K (a.put o.dst v)) : o.quiet P a C K := ⟨v, h1, h2⟩
theorem bcell {B : Nat} {W w1 : World} (hb : Below B W w1) : (∀ b o, b < B → w1.cell? ⟨b, o, none⟩ = W.cell? ⟨b, o, none⟩) ∧ (∀ b o, b < B → w1.frozen? ⟨b, o, none⟩ = W.frozen? ⟨b, o, none⟩) :=
  ⟨fun b o h => hb.cell (p := ⟨b, o, none⟩) h, fun b o h => hb.frozen (p := ⟨b, o, none⟩) h⟩

theorem sameB {P : Program} {f : FuncId} {args : Array Value} {w : World} {v : Value} (h : Calls P f args w fun e w' => e = .returned v ∧ w = w') : Calls P f args w fun e w' => e = .returned v ∧ Below w.heap.size w w' :=
  h.mono fun e w' h => ⟨h.1, h.2 ▸ Below.refl _ _⟩
theorem drawB {P : Program} {f : FuncId} {args : Array Value} {w : World} {v : Value} (h : Calls P f args w fun e w' => e = .returned v ∧ ∃ m, w.drewN m = w') : Calls P f args w fun e w' => e = .returned v ∧ Below w.heap.size w w' :=
  h.mono fun e w' h => by obtain ⟨h1, m, rfl⟩ := h; exact ⟨h1, below_drewN (Below.refl _ _)⟩

theorem wf_i64 {n : Int} (h : (Lit.int .i64 n).wf = true) : -9223372036854775808 ≤ n ∧ n < 9223372036854775808 := by
  simp [Lit.wf, IntKind.min, IntKind.max, IntKind.signed, IntKind.bits] at h; omega
theorem wf_u64 {n : Int} (h : (Lit.int .u64 n).wf = true) : 0 ≤ n ∧ n < 18446744073709551616 := by
  simp [Lit.wf, IntKind.min, IntKind.max, IntKind.signed, IntKind.bits] at h; omega
theorem wf_u32 {n : Int} (h : (Lit.int .u32 n).wf = true) : 0 ≤ n ∧ n < 4294967296 := by
  simp [Lit.wf, IntKind.min, IntKind.max, IntKind.signed, IntKind.bits] at h; omega

/-- Order of two ballots: by number, then by node. -/
def cmpB (an ad bn bd : Int) : Int := if an = bn then cmpI ad bd else cmpI an bn
theorem cmpB_lt {an bn : Int} (ad bd : Int) (h : an < bn) : cmpB an ad bn bd = -1 := by unfold cmpB; rw [if_neg (by omega), cmpI_lt h]
theorem cmpB_gt {an bn : Int} (ad bd : Int) (h : bn < an) : cmpB an ad bn bd = 1 := by unfold cmpB; rw [if_neg (by omega), cmpI_gt h]
theorem cmpB_eq (an ad bd : Int) : cmpB an ad an bd = cmpI ad bd := by unfold cmpB; rw [if_pos rfl]
theorem cmpI_range (a b : Int) : cmpI a b = -1 ∧ a < b ∨ cmpI a b = 0 ∧ a = b ∨ cmpI a b = 1 ∧ b < a := by
  rcases Int.lt_trichotomy a b with h | h | h
  · exact .inl ⟨cmpI_lt h, h⟩
  · subst h; exact .inr (.inl ⟨cmpI_eq _, rfl⟩)
  · exact .inr (.inr ⟨cmpI_gt h, h⟩)
/-- Is the first ballot ahead? -/
def lessB (an ad bn bd : Int) : Bool := decide (an < bn ∨ an = bn ∧ ad < bd)
theorem lessB_true {an ad bn bd : Int} : lessB an ad bn bd = true ↔ (an < bn ∨ an = bn ∧ ad < bd) := by unfold lessB; simp
theorem lessB_false {an ad bn bd : Int} : lessB an ad bn bd = false ↔ ¬ (an < bn ∨ an = bn ∧ ad < bd) := by unfold lessB; simp
theorem cmpB_cases (an ad bn bd : Int) : cmpB an ad bn bd = -1 ∧ (an < bn ∨ an = bn ∧ ad < bd) ∨ cmpB an ad bn bd = 0 ∧ an = bn ∧ ad = bd ∨ cmpB an ad bn bd = 1 ∧ (bn < an ∨ bn = an ∧ bd < ad) := by
  unfold cmpB
  split
  · rename_i h; rcases cmpI_range ad bd with h1 | h1 | h1 <;> omega
  · rename_i h; rcases cmpI_range an bn with h1 | h1 | h1 <;> omega
end Go.Proofs.YtfapaehjmbekpaaDoor
