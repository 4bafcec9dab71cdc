/- Arguments opened by their shape, whatever the program: what a reading of an argument says of its cells. -/
import Derived.WalkKit
import Derived.ProofKit
import Derived.OpenShut
import Derived.ShutString
import Derived.ChangeOld
import Derived.Below
import Derived.SizedLaws
import Derived.Deep.Slices
import Derived.Deep.Fields
namespace Go.Proofs.YtfapaehjmbekpaaDoor
open Go.ChangeShapes Go.WideShapes Go.ChangeAt Go.RowKit Go.Deep

/-- The shape of a type: numbers, bools, strings; 'unit' and 'pair' make up a struct's fields. -/
inductive Sh where
  | int (k : IntKind)
  | bool
  | str
  | unit
  | pair (a b : Sh)
  | struct (s : Sh)
  | slice (e : Sh)
  | arr (n : Nat) (e : Sh)

def Sh.size : Sh → Nat
  | .int _ | .bool | .str | .slice _ => 1
  | .unit => 0
  | .pair a b => a.size + b.size
  | .struct s => s.size
  | .arr n e => n * e.size

/-- What the cells of a value of this shape are, in a world. -/
def Sh.Holds (w : World) : Sh → List Value → Prop
  | .int k, cs => ∃ n, cs = [.int k n] ∧ (Lit.int k n).wf = true
  | .bool, cs => ∃ b, cs = [.bool b]
  | .str, cs => ∃ s : ByteArray, cs = [.string s] ∧ s.size ≤ maxLen
  | .unit, cs => cs = []
  | .pair a b, cs => ∃ c1 c2, cs = c1 ++ c2 ∧ a.Holds w c1 ∧ b.Holds w c2
  | .struct s, cs => s.Holds w cs
  | .slice e, cs => cs = [.slice none 0 0] ∨ ∃ (a : Addr) (len cap : Nat), cs = [.slice (some a) len cap] ∧ len ≤ cap ∧ cap ≤ maxLen ∧
      ∀ i, i < cap → ∃ cs', w.cells? 0 (a.add (i * e.size)) e.size = some cs' ∧ e.Holds w cs'
  | .arr n e, cs => cs.length = n * e.size ∧ ∀ i, i < n → e.Holds w ((cs.drop (i * e.size)).take e.size)

mutual
/-- Is the program's type t of this shape? -/
def Sh.typed (P : Program) : Sh → TypeId → Bool
  | .int k, t => match P.underlying t with | some (.int k') => decide (k' = k) | _ => false
  | .bool, t => match P.underlying t with | some .bool => true | _ => false
  | .str, t => match P.underlying t with | some .string => true | _ => false
  | .unit, _ => false
  | .pair _ _, _ => false
  | .struct s, t => match P.underlying t with | some (.struct fs) => decide (P.cellsOf t = s.size) && Sh.fields P s fs.toList 0 | _ => false
  | .slice e, t => match P.underlying t with | some (.slice te) => decide (P.cellsOf te = e.size) && Sh.typed P e te | _ => false
  | .arr n e, t => match P.underlying t with | some (.array m te) => decide (m = n) && decide (P.cellsOf t = n * e.size) && decide (P.cellsOf te = e.size) && Sh.typed P e te | _ => false
def Sh.fields (P : Program) : Sh → List Field → Nat → Bool
  | .unit, fs, _ => fs.isEmpty
  | .pair a b, fs, off => match fs with | f :: r => decide (f.offset = off) && decide (P.cellsOf f.type = a.size) && Sh.typed P a f.type && Sh.fields P b r (off + a.size) | [] => false
  | .int _, _, _ => false
  | .bool, _, _ => false
  | .str, _, _ => false
  | .struct _, _, _ => false
  | .slice _, _, _ => false
  | .arr _ _, _, _ => false
end

section
variable {H : Type} {enc : TypeId × Value → H} {P : Program} {w : World}
mutual
theorem Sh.holds_of_trod : ∀ (s : Sh) (t : TypeId) (fuel : Nat) (cs : List Value) (x : DataW H × List MemPlace), Sh.typed P s t = true →
    DataW.trod enc P w 0 (fun _ => true) true fuel t cs = some x → s.Holds w cs
  | .int k, t, fuel, cs, x, ht, h => by
    unfold Sh.typed at ht
    split at ht
    · rename_i k' hu
      obtain rfl := of_decide_eq_true ht
      obtain ⟨n, h1, _, h2⟩ := DataW.trod_int hu h
      exact ⟨n, h1, h2⟩
    · cases ht
  | .bool, t, fuel, cs, x, ht, h => by
    unfold Sh.typed at ht
    split at ht
    · rename_i hu
      obtain ⟨b, h1, _⟩ := DataW.trod_bool hu h
      exact ⟨b, h1⟩
    · cases ht
  | .str, t, fuel, cs, x, ht, h => by
    unfold Sh.typed at ht
    split at ht
    · rename_i hu
      obtain ⟨b, h1, _, h2⟩ := DataW.trod_string hu h
      exact ⟨b, h1, h2⟩
    · cases ht
  | .unit, t, fuel, cs, x, ht, h => by unfold Sh.typed at ht; cases ht
  | .pair _ _, t, fuel, cs, x, ht, h => by unfold Sh.typed at ht; cases ht
  | .struct s, t, fuel, cs, x, ht, h => by
    unfold Sh.typed at ht
    split at ht
    · rename_i fs hu
      rw [Bool.and_eq_true] at ht
      have hc := of_decide_eq_true ht.1
      obtain ⟨xs, n, _, _, hl, hxl, hf⟩ := DataW.trod_struct hu h
      have := Sh.holds_of_fields s fs.toList 0 n cs ht.2 (by omega) (fun i f hi => by
        have h1 := hf i f (by simpa using hi)
        have h2 : i < fs.size := by
          have := (List.getElem?_eq_some_iff.1 hi).1
          simpa using this
        rw [h1]
        exact ⟨_, List.getElem?_eq_getElem (by omega)⟩)
      rw [List.drop_zero, List.take_of_length_le (by omega)] at this
      exact this
    · cases ht
  | .slice e, t, fuel, cs, x, ht, h => by
    unfold Sh.typed at ht
    split at ht
    · rename_i te hu
      rw [Bool.and_eq_true] at ht
      have hc := of_decide_eq_true ht.1
      rcases open_slice hu h with ⟨h0, _⟩ | ⟨a, len, cap, m, n, D, Pl, rfl, _, hl, hm, hmm, _, hi⟩
      · exact .inl h0
      · refine .inr ⟨a, len, cap, rfl, hl, hm, fun i hilt => ?_⟩
        obtain ⟨cs', h1, h2⟩ := hi i (by rw [hmm]; simpa using hilt)
        rw [hc] at h1
        exact ⟨cs', h1, Sh.holds_of_trod e te n cs' _ ht.2 h2⟩
    · cases ht
  | .arr n e, t, fuel, cs, x, ht, h => by
    unfold Sh.typed at ht
    split at ht
    · rename_i m te hu
      simp only [Bool.and_eq_true] at ht
      obtain ⟨⟨⟨h1, h2⟩, h3⟩, h4⟩ := ht
      obtain rfl := of_decide_eq_true h1
      have h2 := of_decide_eq_true h2
      have h3 := of_decide_eq_true h3
      obtain ⟨xs, q, _, _, hl, hxl, hf⟩ := DataW.trod_array hu h
      refine ⟨by rw [hl, h2], fun i hi => ?_⟩
      have h5 := hf i hi
      rw [h3, List.getElem?_eq_getElem (by omega)] at h5
      exact Sh.holds_of_trod e te q _ _ h4 h5
    · cases ht
theorem Sh.holds_of_fields : ∀ (s : Sh) (fs : List Field) (off n : Nat) (cs : List Value), Sh.fields P s fs off = true → off + s.size ≤ cs.length →
    (∀ (i : Nat) (f : Field), fs[i]? = some f → ∃ y, DataW.trod enc P w 0 (fun _ => true) true n f.type ((cs.drop f.offset).take (P.cellsOf f.type)) = some y) → s.Holds w ((cs.drop off).take s.size)
  | .unit, fs, off, n, cs, hs, hl, hf => by simp [Sh.Holds, Sh.size]
  | .pair a b, fs, off, n, cs, hs, hl, hf => by
    unfold Sh.fields at hs
    cases fs with
    | nil => cases hs
    | cons f r =>
      simp only [Bool.and_eq_true] at hs
      obtain ⟨⟨⟨h1, h2⟩, h3⟩, h4⟩ := hs
      have h1 := of_decide_eq_true h1
      have h2 := of_decide_eq_true h2
      simp only [Sh.size] at hl
      obtain ⟨y, hy⟩ := hf 0 f rfl
      rw [h1, h2] at hy
      have ha := Sh.holds_of_trod a f.type n _ y h3 hy
      have hb := Sh.holds_of_fields b r (off + a.size) n cs h4 (by omega) (fun i f' hi => hf (i + 1) f' (by simpa using hi))
      refine ⟨_, _, ?_, ha, hb⟩
      simp only [Sh.size]
      rw [List.take_add, List.drop_drop]
  | .int _, fs, off, n, cs, hs, hl, hf => by unfold Sh.fields at hs; cases hs
  | .bool, fs, off, n, cs, hs, hl, hf => by unfold Sh.fields at hs; cases hs
  | .str, fs, off, n, cs, hs, hl, hf => by unfold Sh.fields at hs; cases hs
  | .struct _, fs, off, n, cs, hs, hl, hf => by unfold Sh.fields at hs; cases hs
  | .slice _, fs, off, n, cs, hs, hl, hf => by unfold Sh.fields at hs; cases hs
  | .arr _ _, fs, off, n, cs, hs, hl, hf => by unfold Sh.fields at hs; cases hs
end

/-- A struct by value: the value is its cells. -/
theorem Sh.open_struct {s : Sh} {t : TypeId} {r : Reach} {b0 : Nat} {v : Value} {d : DataW H} {p : List MemPlace} {fs : Array Field} (hu : P.underlying t = some (.struct fs)) (ht : Sh.typed P (.struct s) t = true)
    (hv : Value.okWide P w r b0 t v) (h : DataW.Trod enc P w 0 (fun _ => true) true t v d p) : ∃ cs : List Value, v = .agg cs.toArray ∧ s.Holds w cs := by
  obtain ⟨cs, rfl, _⟩ := okWide_struct hu hv
  obtain ⟨fuel, hf⟩ := h
  exact ⟨cs.toList, by simp, Sh.holds_of_trod (.struct s) t fuel _ _ ht hf⟩
/-- A number. -/
theorem Sh.open_int {k : IntKind} {t : TypeId} {r : Reach} {b0 : Nat} {v : Value} {d : DataW H} {p : List MemPlace} (hu : P.underlying t = some (.int k))
    (hv : Value.okWide P w r b0 t v) (h : DataW.Trod enc P w 0 (fun _ => true) true t v d p) : ∃ n, v = .int k n ∧ (Lit.int k n).wf = true := by
  obtain ⟨n, rfl⟩ := okWide_int hu hv
  obtain ⟨fuel, hf⟩ := h
  obtain ⟨m, hm, _, hw⟩ := DataW.trod_int hu hf
  simp [Value.cells] at hm
  subst hm
  exact ⟨n, rfl, hw⟩
/-- A bool. -/
theorem Sh.open_bool {t : TypeId} {r : Reach} {b0 : Nat} {v : Value} (hu : P.underlying t = some .bool)
    (hv : Value.okWide P w r b0 t v) : ∃ b, v = .bool b := okWide_bool hu hv
/-- A slice. -/
theorem Sh.open_slice' {e : Sh} {t te : TypeId} {r : Reach} {b0 : Nat} {v : Value} {d : DataW H} {p : List MemPlace} (hu : P.underlying t = some (.slice te)) (ht : Sh.typed P (.slice e) t = true)
    (hv : Value.okWide P w r b0 t v) (h : DataW.Trod enc P w 0 (fun _ => true) true t v d p) : (Sh.slice e).Holds w [v] := by
  obtain ⟨a, len, cap, rfl⟩ := okWide_slice hu hv
  obtain ⟨fuel, hf⟩ := h
  have := Sh.holds_of_trod (.slice e) t fuel _ _ ht hf
  simpa [Value.cells] using this
end

theorem Sh.holds_pair {w : World} {a b : Sh} {cs : List Value} (h : (Sh.pair a b).Holds w cs) : ∃ c1 c2, cs = c1 ++ c2 ∧ a.Holds w c1 ∧ b.Holds w c2 := h
theorem Sh.holds_int {w : World} {k : IntKind} {cs : List Value} (h : (Sh.int k).Holds w cs) : ∃ n, cs = [.int k n] ∧ (Lit.int k n).wf = true := h
theorem Sh.holds_bool {w : World} {cs : List Value} (h : Sh.bool.Holds w cs) : ∃ b, cs = [.bool b] := h
theorem Sh.holds_unit {w : World} {cs : List Value} (h : Sh.unit.Holds w cs) : cs = [] := h
theorem Sh.holds_struct {w : World} {s : Sh} {cs : List Value} (h : (Sh.struct s).Holds w cs) : s.Holds w cs := h
end Go.Proofs.YtfapaehjmbekpaaDoor
