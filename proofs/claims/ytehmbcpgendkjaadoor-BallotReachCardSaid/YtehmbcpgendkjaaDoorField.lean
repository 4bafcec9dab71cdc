import Derived.Test.YtehmbcpgendkjaaDoorGrp
namespace Go.Proofs.YtehmbcpgendkjaaDoor
open Go.RowKit
set_option linter.unusedSimpArgs false
set_option linter.unusedVariables false
/-- May the configuration's field be? -/
def rowOk (c : Cfg) : Nat → Bool
  | 0 => decide (1 ≤ c.f) && decide (c.f ≤ 3)
  | 1 => decide (1 ≤ c.mb) && decide (c.mb ≤ 8)
  | 2 => decide (c.dl ≤ 1000)
  | 3 => decide (1 ≤ c.wd) && decide (c.wd ≤ 8)
  | 4 => decide (1 ≤ c.ev) && decide (c.ev ≤ c.wd)
  | 5 => decide (1 ≤ c.bt) && decide (c.bt ≤ 1000)
  | 6 => decide (1 ≤ c.ep) && decide (c.ep ≤ 10000)
  | 7 => decide (c.ep ≤ c.em) && decide (c.em ≤ 100000)
  | 8 => decide (1 ≤ c.mn) && decide (c.mn ≤ 1099511627776)
  | 9 => decide (1 ≤ c.ms) && decide (c.ms ≤ 1099511627776)
  | _ => true
def firstBad (c : Cfg) : Nat → Nat → Int
  | 0, _ => -1
  | n + 1, k => if rowOk c k then firstBad c n (k + 1) else k
/-- The first field that may not be, or -1. -/
def Cfg.bad (c : Cfg) : Int := firstBad c 10 0
theorem firstBad_at {c : Cfg} {j : Nat} (hr : rowOk c j = false) : ∀ n k, k ≤ j → j < k + n → (∀ i, k ≤ i → i < j → rowOk c i = true) → firstBad c n k = j
  | 0, k, h1, h2, _ => by omega
  | n + 1, k, h1, h2, h => by
    unfold firstBad
    by_cases e : k = j
    · subst e; simp [hr]
    · rw [if_pos (h k (Nat.le_refl _) (by omega))]
      exact firstBad_at hr n (k + 1) (by omega) (by omega) (fun i a b => h i (by omega) b)
theorem firstBad_none {c : Cfg} : ∀ n k, (∀ i, k ≤ i → i < k + n → rowOk c i = true) → firstBad c n k = -1
  | 0, _, _ => rfl
  | n + 1, k, h => by
    unfold firstBad
    rw [if_pos (h k (Nat.le_refl _) (by omega))]
    exact firstBad_none n (k + 1) (fun i a b => h i (by omega) (by omega))
theorem bad_at {c : Cfg} {j : Nat} (hj : j < 10) (h : ∀ i, i < j → rowOk c i = true) (hr : rowOk c j = false) : c.bad = j := firstBad_at hr 10 0 (by omega) (by omega) (fun i _ b => h i b)
theorem bad_none {c : Cfg} (h : ∀ i, i < 10 → rowOk c i = true) : c.bad = -1 := firstBad_none 10 0 (fun i _ b => h i (by omega))
theorem wpList_ite {P : Program} {ops : Array Oper} {Q : Exit → Act → World → Prop} {a : Act} {w : World} {o : Oper} {rest : List Oper} (B : Bool) (v : Value) (hg : Region.wanted o (yielded ops a.tmps) = B)
    (h : B = true → ∀ K : Act → World → Prop, K (a.put o.dst v) w → o.wp P a w K Q) (hk : wpList P ops Q rest (a.put o.dst (if B then v else undef)) w) : wpList P ops Q (o :: rest) a w := by
  refine wpList_step fun K hK => ?_
  rw [hg]
  cases B with
  | true => exact h rfl K (hK _ _ hk)
  | false => exact hK _ _ hk
theorem pick_and (p : Prop) [Decidable p] (b : Bool) (u : Value) : (if p then (if p then Value.bool b else u) else Value.bool false) = Value.bool (decide p && b) := by
  by_cases h : p <;> simp [h]
set_option maxHeartbeats 1600000 in
theorem field_walk (c : Cfg) (w : World) : Calls Tryd.prog 68 #[.agg #[.int .i64 c.f, .int .i64 c.mb, .int .u64 c.dl, .int .u64 c.wd, .int .u64 c.ev, .int .u64 c.bt, .int .u64 c.ep, .int .u64 c.em, .int .u64 c.mn, .int .u64 c.ms]] w fun e w' => e = .returned (.int .i64 c.bad) ∧ Below w.heap.size w w' := by
  go_enter Tryd.func68, Tryd.ntmps68
  iterate 3 go_step
  repeat (refine wpList_plain rfl (fun K hK => ?_); go_simp; refine hK _ _ ?_; clear hK)
  iterate 5 go_step
  repeat (refine wpList_plain rfl (fun K hK => ?_); go_simp; refine hK _ _ ?_; clear hK)
  refine wpList_ite (decide (1 ≤ c.f)) (Value.pointer (some ⟨w.heap.size, 0, none⟩)) ?_ ?_ ?_
  · simp [go_sem]
  · intro hB K hK
    have hB := of_decide_eq_true hB
    go_simp
    simpa [Act.put, hB] using hK
  simp only [Act.put, List.setIfInBounds_toArray, List.set_cons_zero, List.set_cons_succ]
  refine wpList_ite (decide (1 ≤ c.f)) (Value.int IntKind.i64 c.f) ?_ ?_ ?_
  · simp [go_sem]
  · intro hB K hK
    have hB := of_decide_eq_true hB
    go_simp
    simpa [Act.put, hB] using hK
  simp only [Act.put, List.setIfInBounds_toArray, List.set_cons_zero, List.set_cons_succ]
  refine wpList_ite (decide (1 ≤ c.f)) (Value.bool (decide (c.f ≤ 3))) ?_ ?_ ?_
  · simp [go_sem]
  · intro hB K hK
    have hB := of_decide_eq_true hB
    go_simp
    simpa [Act.put, hB] using hK
  simp only [Act.put, List.setIfInBounds_toArray, List.set_cons_zero, List.set_cons_succ]
  refine wpList_plain rfl (fun K hK => ?_)
  go_simp
  refine hK _ _ ?_
  clear hK
  rw [pick_and]
  generalize (if 1 ≤ c.f then Value.pointer (some ⟨w.heap.size, 0, none⟩) else undef) = g0
  generalize (if 1 ≤ c.f then Value.int IntKind.i64 c.f else undef) = g1
  generalize (if 1 ≤ c.f then Value.bool (decide (c.f ≤ 3)) else undef) = g2
  repeat (refine wpList_plain rfl (fun K hK => ?_); go_simp; refine hK _ _ ?_; clear hK)
  refine wpList_ite (decide (1 ≤ c.mb)) (Value.pointer (some ⟨w.heap.size, 1, none⟩)) ?_ ?_ ?_
  · simp [go_sem]
  · intro hB K hK
    have hB := of_decide_eq_true hB
    go_simp
    simpa [Act.put, hB] using hK
  simp only [Act.put, List.setIfInBounds_toArray, List.set_cons_zero, List.set_cons_succ]
  refine wpList_ite (decide (1 ≤ c.mb)) (Value.int IntKind.i64 c.mb) ?_ ?_ ?_
  · simp [go_sem]
  · intro hB K hK
    have hB := of_decide_eq_true hB
    go_simp
    simpa [Act.put, hB] using hK
  simp only [Act.put, List.setIfInBounds_toArray, List.set_cons_zero, List.set_cons_succ]
  refine wpList_ite (decide (1 ≤ c.mb)) (Value.bool (decide (c.mb ≤ 8))) ?_ ?_ ?_
  · simp [go_sem]
  · intro hB K hK
    have hB := of_decide_eq_true hB
    go_simp
    simpa [Act.put, hB] using hK
  simp only [Act.put, List.setIfInBounds_toArray, List.set_cons_zero, List.set_cons_succ]
  refine wpList_plain rfl (fun K hK => ?_)
  go_simp
  refine hK _ _ ?_
  clear hK
  rw [pick_and]
  generalize (if 1 ≤ c.mb then Value.pointer (some ⟨w.heap.size, 1, none⟩) else undef) = g3
  generalize (if 1 ≤ c.mb then Value.int IntKind.i64 c.mb else undef) = g4
  generalize (if 1 ≤ c.mb then Value.bool (decide (c.mb ≤ 8)) else undef) = g5
  repeat (refine wpList_plain rfl (fun K hK => ?_); go_simp; refine hK _ _ ?_; clear hK)
  refine wpList_ite (decide (1 ≤ c.wd)) (Value.pointer (some ⟨w.heap.size, 3, none⟩)) ?_ ?_ ?_
  · simp [go_sem]
  · intro hB K hK
    have hB := of_decide_eq_true hB
    go_simp
    simpa [Act.put, hB] using hK
  simp only [Act.put, List.setIfInBounds_toArray, List.set_cons_zero, List.set_cons_succ]
  refine wpList_ite (decide (1 ≤ c.wd)) (Value.int IntKind.u64 c.wd) ?_ ?_ ?_
  · simp [go_sem]
  · intro hB K hK
    have hB := of_decide_eq_true hB
    go_simp
    simpa [Act.put, hB] using hK
  simp only [Act.put, List.setIfInBounds_toArray, List.set_cons_zero, List.set_cons_succ]
  refine wpList_ite (decide (1 ≤ c.wd)) (Value.bool (decide (c.wd ≤ 8))) ?_ ?_ ?_
  · simp [go_sem]
  · intro hB K hK
    have hB := of_decide_eq_true hB
    go_simp
    simpa [Act.put, hB] using hK
  simp only [Act.put, List.setIfInBounds_toArray, List.set_cons_zero, List.set_cons_succ]
  refine wpList_plain rfl (fun K hK => ?_)
  go_simp
  refine hK _ _ ?_
  clear hK
  rw [pick_and]
  generalize (if 1 ≤ c.wd then Value.pointer (some ⟨w.heap.size, 3, none⟩) else undef) = g6
  generalize (if 1 ≤ c.wd then Value.int IntKind.u64 c.wd else undef) = g7
  generalize (if 1 ≤ c.wd then Value.bool (decide (c.wd ≤ 8)) else undef) = g8
  repeat (refine wpList_plain rfl (fun K hK => ?_); go_simp; refine hK _ _ ?_; clear hK)
  refine wpList_ite (decide (1 ≤ c.ev)) (Value.pointer (some ⟨w.heap.size, 4, none⟩)) ?_ ?_ ?_
  · simp [go_sem]
  · intro hB K hK
    have hB := of_decide_eq_true hB
    go_simp
    simpa [Act.put, hB] using hK
  simp only [Act.put, List.setIfInBounds_toArray, List.set_cons_zero, List.set_cons_succ]
  refine wpList_ite (decide (1 ≤ c.ev)) (Value.int IntKind.u64 c.ev) ?_ ?_ ?_
  · simp [go_sem]
  · intro hB K hK
    have hB := of_decide_eq_true hB
    go_simp
    simpa [Act.put, hB] using hK
  simp only [Act.put, List.setIfInBounds_toArray, List.set_cons_zero, List.set_cons_succ]
  refine wpList_ite (decide (1 ≤ c.ev)) (Value.pointer (some ⟨w.heap.size, 3, none⟩)) ?_ ?_ ?_
  · simp [go_sem]
  · intro hB K hK
    have hB := of_decide_eq_true hB
    go_simp
    simpa [Act.put, hB] using hK
  simp only [Act.put, List.setIfInBounds_toArray, List.set_cons_zero, List.set_cons_succ]
  refine wpList_ite (decide (1 ≤ c.ev)) (Value.int IntKind.u64 c.wd) ?_ ?_ ?_
  · simp [go_sem]
  · intro hB K hK
    have hB := of_decide_eq_true hB
    go_simp
    simpa [Act.put, hB] using hK
  simp only [Act.put, List.setIfInBounds_toArray, List.set_cons_zero, List.set_cons_succ]
  refine wpList_ite (decide (1 ≤ c.ev)) (Value.bool (decide (c.ev ≤ c.wd))) ?_ ?_ ?_
  · simp [go_sem]
  · intro hB K hK
    have hB := of_decide_eq_true hB
    go_simp
    simpa [Act.put, hB] using hK
  simp only [Act.put, List.setIfInBounds_toArray, List.set_cons_zero, List.set_cons_succ]
  refine wpList_plain rfl (fun K hK => ?_)
  go_simp
  refine hK _ _ ?_
  clear hK
  rw [pick_and]
  generalize (if 1 ≤ c.ev then Value.pointer (some ⟨w.heap.size, 4, none⟩) else undef) = g9
  generalize (if 1 ≤ c.ev then Value.int IntKind.u64 c.ev else undef) = g10
  generalize (if 1 ≤ c.ev then Value.pointer (some ⟨w.heap.size, 3, none⟩) else undef) = g11
  generalize (if 1 ≤ c.ev then Value.int IntKind.u64 c.wd else undef) = g12
  generalize (if 1 ≤ c.ev then Value.bool (decide (c.ev ≤ c.wd)) else undef) = g13
  repeat (refine wpList_plain rfl (fun K hK => ?_); go_simp; refine hK _ _ ?_; clear hK)
  refine wpList_ite (decide (1 ≤ c.bt)) (Value.pointer (some ⟨w.heap.size, 5, none⟩)) ?_ ?_ ?_
  · simp [go_sem]
  · intro hB K hK
    have hB := of_decide_eq_true hB
    go_simp
    simpa [Act.put, hB] using hK
  simp only [Act.put, List.setIfInBounds_toArray, List.set_cons_zero, List.set_cons_succ]
  refine wpList_ite (decide (1 ≤ c.bt)) (Value.int IntKind.u64 c.bt) ?_ ?_ ?_
  · simp [go_sem]
  · intro hB K hK
    have hB := of_decide_eq_true hB
    go_simp
    simpa [Act.put, hB] using hK
  simp only [Act.put, List.setIfInBounds_toArray, List.set_cons_zero, List.set_cons_succ]
  refine wpList_ite (decide (1 ≤ c.bt)) (Value.bool (decide (c.bt ≤ 1000))) ?_ ?_ ?_
  · simp [go_sem]
  · intro hB K hK
    have hB := of_decide_eq_true hB
    go_simp
    simpa [Act.put, hB] using hK
  simp only [Act.put, List.setIfInBounds_toArray, List.set_cons_zero, List.set_cons_succ]
  refine wpList_plain rfl (fun K hK => ?_)
  go_simp
  refine hK _ _ ?_
  clear hK
  rw [pick_and]
  generalize (if 1 ≤ c.bt then Value.pointer (some ⟨w.heap.size, 5, none⟩) else undef) = g14
  generalize (if 1 ≤ c.bt then Value.int IntKind.u64 c.bt else undef) = g15
  generalize (if 1 ≤ c.bt then Value.bool (decide (c.bt ≤ 1000)) else undef) = g16
  repeat (refine wpList_plain rfl (fun K hK => ?_); go_simp; refine hK _ _ ?_; clear hK)
  refine wpList_ite (decide (1 ≤ c.ep)) (Value.pointer (some ⟨w.heap.size, 6, none⟩)) ?_ ?_ ?_
  · simp [go_sem]
  · intro hB K hK
    have hB := of_decide_eq_true hB
    go_simp
    simpa [Act.put, hB] using hK
  simp only [Act.put, List.setIfInBounds_toArray, List.set_cons_zero, List.set_cons_succ]
  refine wpList_ite (decide (1 ≤ c.ep)) (Value.int IntKind.u64 c.ep) ?_ ?_ ?_
  · simp [go_sem]
  · intro hB K hK
    have hB := of_decide_eq_true hB
    go_simp
    simpa [Act.put, hB] using hK
  simp only [Act.put, List.setIfInBounds_toArray, List.set_cons_zero, List.set_cons_succ]
  refine wpList_ite (decide (1 ≤ c.ep)) (Value.bool (decide (c.ep ≤ 10000))) ?_ ?_ ?_
  · simp [go_sem]
  · intro hB K hK
    have hB := of_decide_eq_true hB
    go_simp
    simpa [Act.put, hB] using hK
  simp only [Act.put, List.setIfInBounds_toArray, List.set_cons_zero, List.set_cons_succ]
  refine wpList_plain rfl (fun K hK => ?_)
  go_simp
  refine hK _ _ ?_
  clear hK
  rw [pick_and]
  generalize (if 1 ≤ c.ep then Value.pointer (some ⟨w.heap.size, 6, none⟩) else undef) = g17
  generalize (if 1 ≤ c.ep then Value.int IntKind.u64 c.ep else undef) = g18
  generalize (if 1 ≤ c.ep then Value.bool (decide (c.ep ≤ 10000)) else undef) = g19
  repeat (refine wpList_plain rfl (fun K hK => ?_); go_simp; refine hK _ _ ?_; clear hK)
  refine wpList_ite (decide (c.ep ≤ c.em)) (Value.pointer (some ⟨w.heap.size, 7, none⟩)) ?_ ?_ ?_
  · simp [go_sem]
  · intro hB K hK
    have hB := of_decide_eq_true hB
    go_simp
    simpa [Act.put, hB] using hK
  simp only [Act.put, List.setIfInBounds_toArray, List.set_cons_zero, List.set_cons_succ]
  refine wpList_ite (decide (c.ep ≤ c.em)) (Value.int IntKind.u64 c.em) ?_ ?_ ?_
  · simp [go_sem]
  · intro hB K hK
    have hB := of_decide_eq_true hB
    go_simp
    simpa [Act.put, hB] using hK
  simp only [Act.put, List.setIfInBounds_toArray, List.set_cons_zero, List.set_cons_succ]
  refine wpList_ite (decide (c.ep ≤ c.em)) (Value.bool (decide (c.em ≤ 100000))) ?_ ?_ ?_
  · simp [go_sem]
  · intro hB K hK
    have hB := of_decide_eq_true hB
    go_simp
    simpa [Act.put, hB] using hK
  simp only [Act.put, List.setIfInBounds_toArray, List.set_cons_zero, List.set_cons_succ]
  refine wpList_plain rfl (fun K hK => ?_)
  go_simp
  refine hK _ _ ?_
  clear hK
  rw [pick_and]
  generalize (if c.ep ≤ c.em then Value.pointer (some ⟨w.heap.size, 7, none⟩) else undef) = g20
  generalize (if c.ep ≤ c.em then Value.int IntKind.u64 c.em else undef) = g21
  generalize (if c.ep ≤ c.em then Value.bool (decide (c.em ≤ 100000)) else undef) = g22
  repeat (refine wpList_plain rfl (fun K hK => ?_); go_simp; refine hK _ _ ?_; clear hK)
  refine wpList_ite (decide (1 ≤ c.mn)) (Value.pointer (some ⟨w.heap.size, 8, none⟩)) ?_ ?_ ?_
  · simp [go_sem]
  · intro hB K hK
    have hB := of_decide_eq_true hB
    go_simp
    simpa [Act.put, hB] using hK
  simp only [Act.put, List.setIfInBounds_toArray, List.set_cons_zero, List.set_cons_succ]
  refine wpList_ite (decide (1 ≤ c.mn)) (Value.int IntKind.u64 c.mn) ?_ ?_ ?_
  · simp [go_sem]
  · intro hB K hK
    have hB := of_decide_eq_true hB
    go_simp
    simpa [Act.put, hB] using hK
  simp only [Act.put, List.setIfInBounds_toArray, List.set_cons_zero, List.set_cons_succ]
  refine wpList_ite (decide (1 ≤ c.mn)) (Value.bool (decide (c.mn ≤ 1099511627776))) ?_ ?_ ?_
  · simp [go_sem]
  · intro hB K hK
    have hB := of_decide_eq_true hB
    go_simp
    simpa [Act.put, hB] using hK
  simp only [Act.put, List.setIfInBounds_toArray, List.set_cons_zero, List.set_cons_succ]
  refine wpList_plain rfl (fun K hK => ?_)
  go_simp
  refine hK _ _ ?_
  clear hK
  rw [pick_and]
  generalize (if 1 ≤ c.mn then Value.pointer (some ⟨w.heap.size, 8, none⟩) else undef) = g23
  generalize (if 1 ≤ c.mn then Value.int IntKind.u64 c.mn else undef) = g24
  generalize (if 1 ≤ c.mn then Value.bool (decide (c.mn ≤ 1099511627776)) else undef) = g25
  repeat (refine wpList_plain rfl (fun K hK => ?_); go_simp; refine hK _ _ ?_; clear hK)
  refine wpList_ite (decide (1 ≤ c.ms)) (Value.pointer (some ⟨w.heap.size, 9, none⟩)) ?_ ?_ ?_
  · simp [go_sem]
  · intro hB K hK
    have hB := of_decide_eq_true hB
    go_simp
    simpa [Act.put, hB] using hK
  simp only [Act.put, List.setIfInBounds_toArray, List.set_cons_zero, List.set_cons_succ]
  refine wpList_ite (decide (1 ≤ c.ms)) (Value.int IntKind.u64 c.ms) ?_ ?_ ?_
  · simp [go_sem]
  · intro hB K hK
    have hB := of_decide_eq_true hB
    go_simp
    simpa [Act.put, hB] using hK
  simp only [Act.put, List.setIfInBounds_toArray, List.set_cons_zero, List.set_cons_succ]
  refine wpList_ite (decide (1 ≤ c.ms)) (Value.bool (decide (c.ms ≤ 1099511627776))) ?_ ?_ ?_
  · simp [go_sem]
  · intro hB K hK
    have hB := of_decide_eq_true hB
    go_simp
    simpa [Act.put, hB] using hK
  simp only [Act.put, List.setIfInBounds_toArray, List.set_cons_zero, List.set_cons_succ]
  refine wpList_plain rfl (fun K hK => ?_)
  go_simp
  refine hK _ _ ?_
  clear hK
  rw [pick_and]
  generalize (if 1 ≤ c.ms then Value.pointer (some ⟨w.heap.size, 9, none⟩) else undef) = g26
  generalize (if 1 ≤ c.ms then Value.int IntKind.u64 c.ms else undef) = g27
  generalize (if 1 ≤ c.ms then Value.bool (decide (c.ms ≤ 1099511627776)) else undef) = g28
  go_wp2
  have hcell : ∀ k, k < 10 → ((w.alloc (.cells #[.int .i64 c.f, .int .i64 c.mb, .int .u64 c.dl, .int .u64 c.wd, .int .u64 c.ev, .int .u64 c.bt, .int .u64 c.ep, .int .u64 c.em, .int .u64 c.mn, .int .u64 c.ms] 24)).alloc (.cells #[.bool (decide (1 ≤ c.f) && decide (c.f ≤ 3)), .bool (decide (1 ≤ c.mb) && decide (c.mb ≤ 8)), .bool (decide (c.dl ≤ 1000)), .bool (decide (1 ≤ c.wd) && decide (c.wd ≤ 8)), .bool (decide (1 ≤ c.ev) && decide (c.ev ≤ c.wd)), .bool (decide (1 ≤ c.bt) && decide (c.bt ≤ 1000)), .bool (decide (1 ≤ c.ep) && decide (c.ep ≤ 10000)), .bool (decide (c.ep ≤ c.em) && decide (c.em ≤ 100000)), .bool (decide (1 ≤ c.mn) && decide (c.mn ≤ 1099511627776)), .bool (decide (1 ≤ c.ms) && decide (c.ms ≤ 1099511627776))] 133)).cell? ⟨w.heap.size + 1, k, none⟩ = some (.bool (rowOk c k)) := fun k hk => by
    have h : k = 0 ∨ k = 1 ∨ k = 2 ∨ k = 3 ∨ k = 4 ∨ k = 5 ∨ k = 6 ∨ k = 7 ∨ k = 8 ∨ k = 9 := by omega
    rcases h with rfl | rfl | rfl | rfl | rfl | rfl | rfl | rfl | rfl | rfl <;> simp [rowOk]
  have HC := Lib.hid hcell
  clear hcell
  go_loop [4] (fun i => ∃ k : Nat, k ≤ 10 ∧ i = .int .i64 k ∧ Hid (∀ j, j < k → rowOk c j = true)) (fun i => 10 - (intOf i).toNat)
  case atStart => exact ⟨0, by omega, rfl, fun j hj => by omega⟩
  case round =>
    obtain ⟨k, hk, rfl, hall⟩ := hrel
    have hk0 : (0 : Int) ≤ (k : Int) := Int.natCast_nonneg _
    by_cases hlt : k < 10
    · have hk1 : (k : Int) < 10 := by omega
      have hcl := HC.out k hlt
      cases hr : rowOk c k
      · rw [hr] at hcl
        have HB := Lib.hid (bad_at hlt hall.out hr)
        clear hr
        go_wp2
        go_ret
        exact ⟨by rw [HB.out]; rfl, (by repeat (first | exact Below.refl _ _ | refine Below.alloc_ ?_ _ | refine Below.drew ?_ | refine below_drewN ?_ | refine Below.setCell ?_ (by first | (simp; done) | (simp; omega)) _))⟩
      · rw [hr] at hcl
        have HR := Lib.hid hr
        clear hr
        go_wp2
        go_round
        case rel => exact ⟨k + 1, by omega, by go_num, fun j hj => by
          by_cases e : j = k
          · rw [e]; exact HR.out
          · exact hall.out j (by omega)⟩
        case measure => simp [intOf]; omega
    · have hk1 : ¬ (k : Int) < 10 := by omega
      have HB := Lib.hid (bad_none (c := c) (fun j hj => hall.out j (by omega)))
      go_wp2
      go_ret
      exact ⟨by rw [HB.out]; rfl, (by repeat (first | exact Below.refl _ _ | refine Below.alloc_ ?_ _ | refine Below.drew ?_ | refine below_drewN ?_ | refine Below.setCell ?_ (by first | (simp; done) | (simp; omega)) _))⟩
end Go.Proofs.YtehmbcpgendkjaaDoor
