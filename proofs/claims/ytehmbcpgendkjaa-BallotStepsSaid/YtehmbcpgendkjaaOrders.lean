import Derived.Test.YtehmbcpgendkjaaSlots
namespace Go.Proofs.Ytehmbcpgendkjaa
open Go.RowKit
set_option linter.unusedSimpArgs false
set_option linter.unusedVariables false
/-- Is it a ballot of the configuration? -/
def validB (c : Cfg) (n d : Int) : Bool := decide (n = 0 ∧ d = 0 ∨ 1 ≤ n ∧ n ≤ c.mn ∧ 0 ≤ d ∧ d < 2 * c.f + 1)
theorem sameB {P : Program} {f : FuncId} {args : Array Value} {w : World} {v : Value} (h : Calls P f args w fun e w' => e = .returned v ∧ w = w') : Calls P f args w fun e w' => e = .returned v ∧ Below w.heap.size w w' :=
  h.mono fun e w' h => ⟨h.1, h.2 ▸ Below.refl _ _⟩
theorem drawB {P : Program} {f : FuncId} {args : Array Value} {w : World} {v : Value} (h : Calls P f args w fun e w' => e = .returned v ∧ ∃ m, w.drewN m = w') : Calls P f args w fun e w' => e = .returned v ∧ Below w.heap.size w w' :=
  h.mono fun e w' h => by obtain ⟨h1, m, rfl⟩ := h; exact ⟨h1, below_drewN (Below.refl _ _)⟩
theorem ret_beq (d : Int) : (d == 0) = decide (d = 0) := by by_cases h : d = 0 <;> simp [h]
theorem valid_nil (n d : Int) (w : World) : Calls Try.prog 20 #[.pointer none, .agg #[.int .u64 n, .int .i64 d]] w fun e w' => e = .returned (.bool false) ∧ Below w.heap.size w w' := by
  go_enter Try.func20, Try.ntmps20
  go_wp2
  refine wp_region_below (by kernel_rfl) (by kernel_rfl) ?_
  repeat first | go_big_quiet_skip | (go_big_quiet_want; go_big_quiet_op; go_big_quiet_on) | (go_big_quiet_want; rename_i K hK; apply quiet_mk; (focus (intro w1 hw1; have hc1 := (bcell hw1).1; have hf1 := (bcell hw1).2; go_simp; first | done | rfl | (first | (go_at_call 43; (with_reducible refine (sameB (made_nil _)).mono ?_); rintro e w2 ⟨rfl, hb2⟩; exact ⟨rfl, (hw1.trans (hb2.mono hw1.size)).mono (by simp)⟩)))); refine hK _ ?_; clear hK K; try simp only [Act.put, List.setIfInBounds_toArray, List.set_cons_zero, List.set_cons_succ])
  refine wpQuiet_nil ?_
  intro wa hb_wa
  have hc_wa := (bcell hb_wa).1
  have hf_wa := (bcell hb_wa).2
  go_wp2
  go_ret
  exact ⟨rfl, (by repeat (first | exact Below.refl _ _ | exact hb_wa | refine Below.on ?_ hb_wa | refine Below.alloc_ ?_ _ | refine Below.drew ?_ | refine below_drewN ?_ | refine Below.setCell ?_ (by first | (simp; done) | (simp; omega)) _))⟩
set_option maxHeartbeats 1600000 in
theorem valid_at (b : Nat) (c : Cfg) (n d : Int) (w : World) (hg : GrpAt w b c (2 * c.f + 1)) (h1 : 1 ≤ c.f) (h2 : c.f ≤ 3) (hn0 : 0 ≤ n) :
    Calls Try.prog 20 #[.pointer (some ⟨b, 0, none⟩), .agg #[.int .u64 n, .int .i64 d]] w fun e w' => e = .returned (.bool (validB c n d)) ∧ Below w.heap.size w w' := by
  have MB : ∀ w1, Below w.heap.size w w1 → Calls Try.prog 43 #[.pointer (some ⟨b, 0, none⟩)] w1 fun e w' => e = .returned (.bool true) ∧ Below w1.heap.size w1 w' := fun w1 hb => by
    have h := made_at b (2 * c.f + 1) w1 (hg.below hg.lt hb).nodes
    rw [show decide (0 < 2 * c.f + 1) = true from decide_eq_true (by omega)] at h
    exact sameB h
  have NB : ∀ w1, Below w.heap.size w w1 → Calls Try.prog 24 #[.pointer (some ⟨b, 0, none⟩), .int .i64 d] w1 fun e w' => e = .returned (.bool (decide (0 ≤ d ∧ d < 2 * c.f + 1))) ∧ Below w1.heap.size w1 w' := fun w1 hb =>
    sameB (node_at b (2 * c.f + 1) d w1 (hg.below hg.lt hb).nodes (by omega))
  have q8 := hg.mn
  have hlt := hg.lt
  have hlt2 : b < w.heap.size + 1 := by omega
  have MB := Lib.hid MB
  have NB := Lib.hid NB
  clear hg
  by_cases e0 : n = 0 ∧ d = 0
  · obtain ⟨rfl, rfl⟩ := e0
    rw [show validB c 0 0 = true from by simp [validB]]
    go_enter Try.func20, Try.ntmps20
    go_wp2
    refine wp_region_below (by kernel_rfl) (by kernel_rfl) ?_
    repeat first | go_big_quiet_skip | (go_big_quiet_want; go_big_quiet_op; go_big_quiet_on) | (go_big_quiet_want; rename_i K hK; apply quiet_mk; (focus (intro w1 hw1; have hc1 := (bcell hw1).1; have hf1 := (bcell hw1).2; go_simp; first | done | rfl | (first | (go_at_call 43; (refine (MB.out _ (Below.on (Below.alloc_ (Below.refl _ _) _) hw1)).mono ?_); rintro e w2 ⟨rfl, hb2⟩; exact ⟨rfl, (hw1.trans (hb2.mono hw1.size)).mono (by simp)⟩)))); refine hK _ ?_; clear hK K; try simp only [Act.put, List.setIfInBounds_toArray, List.set_cons_zero, List.set_cons_succ])
    refine wpQuiet_nil ?_
    intro wa hb_wa
    have hc_wa := (bcell hb_wa).1
    have hf_wa := (bcell hb_wa).2
    go_wp2
    go_ret
    exact ⟨rfl, (by repeat (first | exact Below.refl _ _ | exact hb_wa | refine Below.on ?_ hb_wa | refine Below.alloc_ ?_ _ | refine Below.drew ?_ | refine below_drewN ?_ | refine Below.setCell ?_ (by first | (simp; done) | (simp; omega)) _))⟩
  · by_cases e1 : 1 ≤ n
    · have hne : ¬ n = 0 := by omega
      by_cases e2 : n ≤ c.mn
      · rw [show validB c n d = decide (0 ≤ d ∧ d < 2 * c.f + 1) from by simp [validB, e1, e2, hne]]
        clear e0
        go_enter Try.func20, Try.ntmps20
        go_wp2
        refine wp_region_below (by kernel_rfl) (by kernel_rfl) ?_
        repeat first | go_big_quiet_skip | (go_big_quiet_want; go_big_quiet_op; go_big_quiet_on) | (go_big_quiet_want; rename_i K hK; apply quiet_mk; (focus (intro w1 hw1; have hc1 := (bcell hw1).1; have hf1 := (bcell hw1).2; go_simp; first | done | rfl | (first | (go_at_call 43; (refine (MB.out _ (Below.on (Below.alloc_ (Below.refl _ _) _) hw1)).mono ?_); rintro e w2 ⟨rfl, hb2⟩; exact ⟨rfl, (hw1.trans (hb2.mono hw1.size)).mono (by simp)⟩) | (go_at_call 24; (refine (NB.out _ (Below.on (Below.alloc_ (Below.refl _ _) _) hw1)).mono ?_); rintro e w2 ⟨rfl, hb2⟩; exact ⟨rfl, (hw1.trans (hb2.mono hw1.size)).mono (by simp)⟩)))); refine hK _ ?_; clear hK K; try simp only [Act.put, List.setIfInBounds_toArray, List.set_cons_zero, List.set_cons_succ])
        refine wpQuiet_nil ?_
        intro wa hb_wa
        have hc_wa := (bcell hb_wa).1
        have hf_wa := (bcell hb_wa).2
        go_wp2
        go_ret
        exact ⟨by simp, (by repeat (first | exact Below.refl _ _ | exact hb_wa | refine Below.on ?_ hb_wa | refine Below.alloc_ ?_ _ | refine Below.drew ?_ | refine below_drewN ?_ | refine Below.setCell ?_ (by first | (simp; done) | (simp; omega)) _))⟩
      · rw [show validB c n d = false from by simp [validB, e1, e2, hne]]
        have hd : decide (n ≤ c.mn) = false := decide_eq_false e2
        clear e0 e2
        go_enter Try.func20, Try.ntmps20
        go_wp2
        refine wp_region_below (by kernel_rfl) (by kernel_rfl) ?_
        repeat first | go_big_quiet_skip | (go_big_quiet_want; go_big_quiet_op; go_big_quiet_on) | (go_big_quiet_want; rename_i K hK; apply quiet_mk; (focus (intro w1 hw1; have hc1 := (bcell hw1).1; have hf1 := (bcell hw1).2; go_simp; first | done | rfl | (first | (go_at_call 43; (refine (MB.out _ (Below.on (Below.alloc_ (Below.refl _ _) _) hw1)).mono ?_); rintro e w2 ⟨rfl, hb2⟩; exact ⟨rfl, (hw1.trans (hb2.mono hw1.size)).mono (by simp)⟩)))); refine hK _ ?_; clear hK K; try simp only [Act.put, List.setIfInBounds_toArray, List.set_cons_zero, List.set_cons_succ])
        refine wpQuiet_nil ?_
        intro wa hb_wa
        have hc_wa := (bcell hb_wa).1
        have hf_wa := (bcell hb_wa).2
        go_wp2
        go_ret
        exact ⟨rfl, (by repeat (first | exact Below.refl _ _ | exact hb_wa | refine Below.on ?_ hb_wa | refine Below.alloc_ ?_ _ | refine Below.drew ?_ | refine below_drewN ?_ | refine Below.setCell ?_ (by first | (simp; done) | (simp; omega)) _))⟩
    · have hn : n = 0 := by omega
      subst hn
      have hd0 : ¬ d = 0 := fun h => e0 ⟨rfl, h⟩
      rw [show validB c 0 d = false from by simp [validB, hd0]]
      clear e0 e1
      go_enter Try.func20, Try.ntmps20
      go_wp2
      refine wp_region_below (by kernel_rfl) (by kernel_rfl) ?_
      repeat first | go_big_quiet_skip | (go_big_quiet_want; go_big_quiet_op; go_big_quiet_on) | (go_big_quiet_want; rename_i K hK; apply quiet_mk; (focus (intro w1 hw1; have hc1 := (bcell hw1).1; have hf1 := (bcell hw1).2; go_simp; first | done | rfl | (first | (go_at_call 43; (refine (MB.out _ (Below.on (Below.alloc_ (Below.refl _ _) _) hw1)).mono ?_); rintro e w2 ⟨rfl, hb2⟩; exact ⟨rfl, (hw1.trans (hb2.mono hw1.size)).mono (by simp)⟩)))); refine hK _ ?_; clear hK K; try simp only [Act.put, List.setIfInBounds_toArray, List.set_cons_zero, List.set_cons_succ])
      refine wpQuiet_nil ?_
      intro wa hb_wa
      have hc_wa := (bcell hb_wa).1
      have hf_wa := (bcell hb_wa).2
      go_wp2
      go_ret
      exact ⟨rfl, (by repeat (first | exact Below.refl _ _ | exact hb_wa | refine Below.on ?_ hb_wa | refine Below.alloc_ ?_ _ | refine Below.drew ?_ | refine below_drewN ?_ | refine Below.setCell ?_ (by first | (simp; done) | (simp; omega)) _))⟩
set_option maxHeartbeats 1600000 in
theorem rvalid_at (b : Nat) (c : Cfg) (n d : Int) (w : World) (hg : RefAt w b c) (h1 : 1 ≤ c.f) (h2 : c.f ≤ 3) (hn0 : 0 ≤ n) :
    Calls Try.prog 21 #[.pointer (some ⟨b, 0, none⟩), .agg #[.int .u64 n, .int .i64 d]] w fun e w' => e = .returned (.bool (validB c n d)) ∧ Below w.heap.size w w' := by
  have NB : ∀ w1, Below w.heap.size w w1 → Calls Try.prog 44 #[.pointer (some ⟨b, 0, none⟩), .int .i64 d] w1 fun e w' => e = .returned (.bool (decide (0 ≤ d ∧ d < 2 * c.f + 1))) ∧ Below w1.heap.size w1 w' := fun w1 hb =>
    sameB (rnode_at b c.f d w1 (hg.below hg.lt hb).f (by omega) h2)
  have q8 := hg.mn
  have hlt := hg.lt
  have hlt2 : b < w.heap.size + 1 := by omega
  have NB := Lib.hid NB
  clear hg
  by_cases e0 : n = 0
  · subst e0
    rw [show validB c 0 d = decide (d = 0) from by simp [validB]]
    go_enter Try.func21, Try.ntmps21
    go_wp2
    go_ret
    exact ⟨by simp [ret_beq], (by repeat (first | exact Below.refl _ _ | refine Below.alloc_ ?_ _ | refine Below.drew ?_ | refine below_drewN ?_ | refine Below.setCell ?_ (by first | (simp; done) | (simp; omega)) _))⟩
  · have hnb : (n == 0) = false := beq_eq_false_iff_ne.mpr e0
    by_cases e2 : n ≤ c.mn
    · rw [show validB c n d = decide (0 ≤ d ∧ d < 2 * c.f + 1) from by simp only [validB]; congr 1; apply propext; omega]
      go_enter Try.func21, Try.ntmps21
      go_wp2
      refine wp_region_below (by kernel_rfl) (by kernel_rfl) ?_
      repeat first | go_big_quiet_skip | (go_big_quiet_want; go_big_quiet_op; go_big_quiet_on) | (go_big_quiet_want; rename_i K hK; apply quiet_mk; (focus (intro w1 hw1; have hc1 := (bcell hw1).1; have hf1 := (bcell hw1).2; go_simp; first | done | rfl | (first | (go_at_call 44; (refine (NB.out _ (Below.on (Below.alloc_ (Below.refl _ _) _) hw1)).mono ?_); rintro e w2 ⟨rfl, hb2⟩; exact ⟨rfl, (hw1.trans (hb2.mono hw1.size)).mono (by simp)⟩)))); refine hK _ ?_; clear hK K; try simp only [Act.put, List.setIfInBounds_toArray, List.set_cons_zero, List.set_cons_succ])
      refine wpQuiet_nil ?_
      intro wa hb_wa
      have hc_wa := (bcell hb_wa).1
      have hf_wa := (bcell hb_wa).2
      go_wp2
      go_ret
      exact ⟨by simp, (by repeat (first | exact Below.refl _ _ | exact hb_wa | refine Below.on ?_ hb_wa | refine Below.alloc_ ?_ _ | refine Below.drew ?_ | refine below_drewN ?_ | refine Below.setCell ?_ (by first | (simp; done) | (simp; omega)) _))⟩
    · rw [show validB c n d = false from by simp [validB, e0, e2]]
      have hd : decide (n ≤ c.mn) = false := decide_eq_false e2
      clear e2
      go_enter Try.func21, Try.ntmps21
      go_wp2
      refine wp_region_below (by kernel_rfl) (by kernel_rfl) ?_
      repeat first | go_big_quiet_skip | (go_big_quiet_want; go_big_quiet_op; go_big_quiet_on) | (go_big_quiet_want; rename_i K hK; apply quiet_mk; (focus (intro w1 hw1; have hc1 := (bcell hw1).1; have hf1 := (bcell hw1).2; go_simp; first | done | rfl | (first | (go_at_call 44; (refine (NB.out _ (Below.on (Below.alloc_ (Below.refl _ _) _) hw1)).mono ?_); rintro e w2 ⟨rfl, hb2⟩; exact ⟨rfl, (hw1.trans (hb2.mono hw1.size)).mono (by simp)⟩)))); refine hK _ ?_; clear hK K; try simp only [Act.put, List.setIfInBounds_toArray, List.set_cons_zero, List.set_cons_succ])
      refine wpQuiet_nil ?_
      intro wa hb_wa
      have hc_wa := (bcell hb_wa).1
      have hf_wa := (bcell hb_wa).2
      go_wp2
      go_ret
      exact ⟨rfl, (by repeat (first | exact Below.refl _ _ | exact hb_wa | refine Below.on ?_ hb_wa | refine Below.alloc_ ?_ _ | refine Below.drew ?_ | refine below_drewN ?_ | refine Below.setCell ?_ (by first | (simp; done) | (simp; omega)) _))⟩
end Go.Proofs.Ytehmbcpgendkjaa
