import Derived.Test.YtehmbcpgendkjaaSteps
namespace Go.Proofs.Ytehmbcpgendkjaa
open Go.RowKit
set_option linter.unusedSimpArgs false
set_option linter.unusedVariables false
/-- What form says to a ballot: a refusal k. -/
def FormNo (p : Option Addr) (n d k : Int) (w : World) : Prop := ∀ w1, Below w.heap.size w w1 → Calls Try.prog 46 #[.pointer p, .agg #[.int .u64 n, .int .i64 d]] w1 fun e w' => ∃ q, e = .returned (.iface 97 (.pointer (some ⟨q, 0, none⟩))) ∧ Err1 w' w1.heap.size q 0 k ∧ Below w1.heap.size w1 w'
def FormYes (p : Option Addr) (n d : Int) (w : World) : Prop := ∀ w1, Below w.heap.size w w1 → Calls Try.prog 46 #[.pointer p, .agg #[.int .u64 n, .int .i64 d]] w1 fun e w' => e = .returned .nilIface ∧ Below w1.heap.size w1 w'
theorem FormNo.zero (p : Option Addr) (n d : Int) (w : World) (h : NotMade w p) : FormNo p n d 3 w := fun w1 hb => form_not p n d w1 (h.below (w' := w1) hb)
theorem FormNo.bad (b : Nat) (c : Cfg) (n d : Int) (w : World) (hg : GrpAt w b c (2 * c.f + 1)) (h1 : 1 ≤ c.f) (h2 : c.f ≤ 3) (hn0 : 0 ≤ n) (hv : validB c n d = false) : FormNo (some ⟨b, 0, none⟩) n d 181 w :=
  fun w1 hb => form_bad b c n d w1 (hg.below (w' := w1) hg.lt hb) h1 h2 hn0 hv
theorem FormYes.ok (b : Nat) (c : Cfg) (n d : Int) (w : World) (hg : GrpAt w b c (2 * c.f + 1)) (h1 : 1 ≤ c.f) (h2 : c.f ≤ 3) (hn0 : 0 ≤ n) (hv : validB c n d = true) : FormYes (some ⟨b, 0, none⟩) n d w :=
  fun w1 hb => form_ok b c n d w1 (hg.below (w' := w1) hg.lt hb) h1 h2 hn0 hv
set_option maxHeartbeats 1600000 in
theorem own_no (p : Option Addr) (n d x k : Int) (w : World) (F : FormNo p n d k w) : Calls Try.prog 25 #[.pointer p, .agg #[.int .u64 n, .int .i64 d], .int .i64 x] w (NoB 0 k w) := by
  have F := Lib.hid F
  go_enter Try.func25, Try.ntmps25
  go_wp2_with fail
  refine (F.out _ (by repeat (first | exact Below.refl _ _ | refine Below.alloc_ ?_ _ | refine Below.drew ?_ | refine below_drewN ?_ | refine Below.setCell ?_ (by first | (simp; done) | (simp; omega)) _))).mono ?_
  rintro e wa ⟨q, rfl, he, hb_wa⟩
  have HE := Lib.hid he
  have hc_wa := (bcell hb_wa).1
  have hf_wa := (bcell hb_wa).2
  clear he
  have hz_wa_0 : w.heap.size < wa.heap.size := by have h_ := hb_wa.size; (try simp at h_); omega
  have hz_wa_1 : w.heap.size + 1 < wa.heap.size := by have h_ := hb_wa.size; (try simp at h_); omega
  go_wp2
  exact bodyPost_ret (v := .tuple #[.agg #[.int .u64 0, .int .i64 0], .iface 97 (.pointer (some ⟨q, 0, none⟩))]) (by simp [results, Try.results25, go_sem, *]) rfl ⟨q, rfl, ((HE.out.setCell _ _ (by simp)).setCell _ _ (by simp)).mono (by simp; omega), (by repeat (first | exact Below.refl _ _ | exact hb_wa | refine Below.on ?_ hb_wa | refine Below.alloc_ ?_ _ | refine Below.drew ?_ | refine below_drewN ?_ | refine Below.setCell ?_ (by first | (simp; done) | (simp; omega)) _))⟩
/-- A number and no refusal; none, and a refusal. -/
def GotN (x : Int) (w : World) (e : Ending) (w' : World) : Prop := e = .returned (.tuple #[.int .u64 x, .nilIface]) ∧ Below w.heap.size w w'
def NoN (i k : Int) (w : World) (e : Ending) (w' : World) : Prop := ∃ q, e = .returned (.tuple #[.int .u64 0, .iface 97 (.pointer (some ⟨q, 0, none⟩))]) ∧ Err1 w' w.heap.size q i k ∧ Below w.heap.size w w'
set_option maxHeartbeats 1600000 in
theorem rank_no (p : Option Addr) (n d k : Int) (w : World) (F : FormNo p n d k w) : Calls Try.prog 26 #[.pointer p, .agg #[.int .u64 n, .int .i64 d]] w (NoN 0 k w) := by
  have F := Lib.hid F
  go_enter Try.func26, Try.ntmps26
  go_wp2_with fail
  refine (F.out _ (by repeat (first | exact Below.refl _ _ | refine Below.alloc_ ?_ _ | refine Below.drew ?_ | refine below_drewN ?_ | refine Below.setCell ?_ (by first | (simp; done) | (simp; omega)) _))).mono ?_
  rintro e wa ⟨q, rfl, he, hb_wa⟩
  have HE := Lib.hid he
  have hc_wa := (bcell hb_wa).1
  have hf_wa := (bcell hb_wa).2
  clear he
  have hz_wa_0 : w.heap.size < wa.heap.size := by have h_ := hb_wa.size; (try simp at h_); omega
  go_wp2
  exact bodyPost_ret (v := .tuple #[.int .u64 0, .iface 97 (.pointer (some ⟨q, 0, none⟩))]) (by simp [results, Try.results26, go_sem, *]) rfl ⟨q, rfl, HE.out.mono (by simp), (by repeat (first | exact Below.refl _ _ | exact hb_wa | refine Below.on ?_ hb_wa | refine Below.alloc_ ?_ _ | refine Below.drew ?_ | refine below_drewN ?_ | refine Below.setCell ?_ (by first | (simp; done) | (simp; omega)) _))⟩
/-- The rank of a ballot. -/
def rankB (c : Cfg) (n d : Int) : Int := if n = 0 then 0 else (n - 1) * (2 * c.f + 1) + d + 1
set_option maxHeartbeats 1600000 in
theorem rank_ok (b : Nat) (c : Cfg) (n d : Int) (w : World) (hg : GrpAt w b c (2 * c.f + 1)) (h1 : 1 ≤ c.f) (h2 : c.f ≤ 3) (hn0 : 0 ≤ n) (hm : c.mn ≤ 1099511627776) (hv : validB c n d = true) :
    Calls Try.prog 26 #[.pointer (some ⟨b, 0, none⟩), .agg #[.int .u64 n, .int .i64 d]] w (GotN (rankB c n d) w) := by
  have F := Lib.hid (FormYes.ok b c n d w hg h1 h2 hn0 hv)
  have hv' : n = 0 ∧ d = 0 ∨ 1 ≤ n ∧ n ≤ c.mn ∧ 0 ≤ d ∧ d < 2 * c.f + 1 := by simpa [validB] using hv
  have q10 := hg.nodes
  have hlt := hg.lt
  clear hg hv
  by_cases e0 : n = 0
  · subst e0
    rw [show rankB c 0 d = 0 from by simp [rankB]]
    clear hv'
    go_enter Try.func26, Try.ntmps26
    go_wp2_with fail
    refine (F.out _ (by repeat (first | exact Below.refl _ _ | refine Below.alloc_ ?_ _ | refine Below.drew ?_ | refine below_drewN ?_ | refine Below.setCell ?_ (by first | (simp; done) | (simp; omega)) _))).mono ?_
    rintro e wa ⟨rfl, hb_wa⟩
    have hc_wa := (bcell hb_wa).1
    have hf_wa := (bcell hb_wa).2
    have hz_wa_0 : w.heap.size < wa.heap.size := by have h_ := hb_wa.size; (try simp at h_); omega
    go_wp2
    exact bodyPost_ret (v := .tuple #[.int .u64 0, .nilIface]) (by simp [results, Try.results26, go_sem, *]) rfl ⟨rfl, (by repeat (first | exact Below.refl _ _ | exact hb_wa | refine Below.on ?_ hb_wa | refine Below.alloc_ ?_ _ | refine Below.drew ?_ | refine below_drewN ?_ | refine Below.setCell ?_ (by first | (simp; done) | (simp; omega)) _))⟩
  · have hnb : (n == 0) = false := beq_eq_false_iff_ne.mpr e0
    have hd0 : 0 ≤ d := by omega
    have hd1 : d < 2 * c.f + 1 := by omega
    have hnm : n ≤ c.mn := by omega
    have hn1 : 1 ≤ n := by omega
    have hp0 : 0 ≤ (n - 1) * (2 * c.f + 1) := Int.mul_nonneg (by omega) (by omega)
    have hp1 : (n - 1) * (2 * c.f + 1) ≤ 1099511627776 * 7 := Int.mul_le_mul (by omega) (by omega) (by omega) (by omega)
    have e1 : IntKind.u64.wrap (n - 1) = n - 1 := by simp only [IntKind.wrap, IntKind.signed, IntKind.bits]; simp; omega
    have e2 : IntKind.u64.wrap (2 * c.f + 1) = 2 * c.f + 1 := by simp only [IntKind.wrap, IntKind.signed, IntKind.bits]; simp; omega
    have e3 : IntKind.u64.wrap d = d := by simp only [IntKind.wrap, IntKind.signed, IntKind.bits]; simp; omega
    have e4 : IntKind.u64.wrap ((n - 1) * (2 * c.f + 1)) = (n - 1) * (2 * c.f + 1) := by simp only [IntKind.wrap, IntKind.signed, IntKind.bits]; simp; omega
    have e5 : IntKind.u64.wrap ((n - 1) * (2 * c.f + 1) + d) = (n - 1) * (2 * c.f + 1) + d := by simp only [IntKind.wrap, IntKind.signed, IntKind.bits]; simp; omega
    have e6 : IntKind.u64.wrap ((n - 1) * (2 * c.f + 1) + d + 1) = (n - 1) * (2 * c.f + 1) + d + 1 := by simp only [IntKind.wrap, IntKind.signed, IntKind.bits]; simp; omega
    rw [show rankB c n d = (n - 1) * (2 * c.f + 1) + d + 1 from by simp [rankB, e0]]
    clear hv'
    go_enter Try.func26, Try.ntmps26
    go_wp2_with fail
    refine (F.out _ (by repeat (first | exact Below.refl _ _ | refine Below.alloc_ ?_ _ | refine Below.drew ?_ | refine below_drewN ?_ | refine Below.setCell ?_ (by first | (simp; done) | (simp; omega)) _))).mono ?_
    rintro e wa ⟨rfl, hb_wa⟩
    have hc_wa := (bcell hb_wa).1
    have hf_wa := (bcell hb_wa).2
    have hz_wa_0 : w.heap.size < wa.heap.size := by have h_ := hb_wa.size; (try simp at h_); omega
    have hba : b < wa.heap.size := by omega
    go_wp2
    refine wp_region_below (by kernel_rfl) (by kernel_rfl) ?_
    repeat first | go_big_quiet_skip | (go_big_quiet_want; go_big_quiet_op; go_big_quiet_on) | (go_big_quiet_want; rename_i K hK; apply quiet_mk; (focus (intro w1 hw1; have hc1 := (bcell hw1).1; have hf1 := (bcell hw1).2; go_simp; first | done | rfl | (fail))); refine hK _ ?_; clear hK K; try simp only [Act.put, List.setIfInBounds_toArray, List.set_cons_zero, List.set_cons_succ])
    refine wpQuiet_nil ?_
    intro wx hb_wx
    have hc_wx := (bcell hb_wx).1
    have hf_wx := (bcell hb_wx).2
    go_wp2
    exact bodyPost_ret (v := .tuple #[.int .u64 ((n - 1) * (2 * c.f + 1) + d + 1), .nilIface]) (by simp [results, Try.results26, go_sem, *]) rfl ⟨rfl, (by repeat (first | exact Below.refl _ _ | exact hb_wa | refine Below.on ?_ hb_wa | exact hb_wx | refine Below.on ?_ hb_wx | refine Below.alloc_ ?_ _ | refine Below.drew ?_ | refine below_drewN ?_ | refine Below.setCell ?_ (by first | (simp; done) | (simp; omega)) _))⟩
set_option maxHeartbeats 1600000 in
theorem ranked_not (p : Option Addr) (n : Int) (w : World) (h : NotMade w p) : Calls Try.prog 27 #[.pointer p, .int .u64 n] w (NoB 0 3 w) := by
  have M := fun w1 hb => made_not p w1 (h.below (w' := w1) hb)
  have M := Lib.hid M
  clear h
  go_enter Try.func27, Try.ntmps27
  go_wp2_with fail
  refine (M.out _ (by repeat (first | exact Below.refl _ _ | refine Below.alloc_ ?_ _ | refine Below.drew ?_ | refine below_drewN ?_ | refine Below.setCell ?_ (by first | (simp; done) | (simp; omega)) _))).mono ?_
  rintro e w1 ⟨rfl, rfl⟩
  go_wp2_with (go_at_call 47; refine (refuse_any _ _ _).mono ?_; rintro e w' ⟨rfl, rfl⟩)
  refine bodyPost_ret (v := .tuple #[.agg #[.int .u64 0, .int .i64 0], .iface 97 (.pointer (some ⟨w.heap.size + 1, 0, none⟩))]) ?_ rfl (?_ : NoB 0 3 w _ _)
  · simp [results, Try.results27, go_sem, *]
  · exact ⟨_, rfl, Err1.new' (by simp) (by omega), (by repeat (first | exact Below.refl _ _ | refine Below.alloc_ ?_ _ | refine Below.drew ?_ | refine below_drewN ?_ | refine Below.setCell ?_ (by first | (simp; done) | (simp; omega)) _))⟩
/-- The ballot of a rank. -/
def rankedB (c : Cfg) (n : Int) : Option (Int × Int) := if c.mn * (2 * c.f + 1) < n then none else if n = 0 then some (0, 0) else some ((n - 1) / (2 * c.f + 1) + 1, (n - 1) % (2 * c.f + 1))
set_option maxHeartbeats 1600000 in
theorem ranked_ok (b : Nat) (c : Cfg) (n : Int) (w : World) (hg : GrpAt w b c (2 * c.f + 1)) (h1 : 1 ≤ c.f) (h2 : c.f ≤ 3) (hn0 : 0 ≤ n) (hm0 : 1 ≤ c.mn) (hm : c.mn ≤ 1099511627776) :
    Calls Try.prog 27 #[.pointer (some ⟨b, 0, none⟩), .int .u64 n] w fun e w' => match rankedB c n with | some (x, y) => GotB x y w e w' | none => NoB 0 184 w e w' := by
  have M : ∀ w1, Below w.heap.size w w1 → Calls Try.prog 43 #[.pointer (some ⟨b, 0, none⟩)] w1 fun e w' => e = .returned (.bool true) ∧ w1 = w' := fun w1 hb => by
    have h := made_at b (2 * c.f + 1) w1 (hg.below hg.lt hb).nodes
    rw [show decide (0 < 2 * c.f + 1) = true from decide_eq_true (by omega)] at h
    exact h
  have M := Lib.hid M
  have q10 := hg.nodes
  have q8 := hg.mn
  have hlt := hg.lt
  have hlt1 : b < w.heap.size + 1 := by omega
  clear hg
  have hp0 : 0 ≤ c.mn * (2 * c.f + 1) := Int.mul_nonneg (by omega) (by omega)
  have hp1 : c.mn * (2 * c.f + 1) ≤ 1099511627776 * 7 := Int.mul_le_mul (by omega) (by omega) (by omega) (by omega)
  have e2 : IntKind.u64.wrap (2 * c.f + 1) = 2 * c.f + 1 := by simp only [IntKind.wrap, IntKind.signed, IntKind.bits]; simp; omega
  have e4 : IntKind.u64.wrap (c.mn * (2 * c.f + 1)) = c.mn * (2 * c.f + 1) := by simp only [IntKind.wrap, IntKind.signed, IntKind.bits]; simp; omega
  by_cases c0 : c.mn * (2 * c.f + 1) < n
  · rw [show rankedB c n = none from by simp [rankedB, c0]]
    have hd : decide (n > c.mn * (2 * c.f + 1)) = true := decide_eq_true c0
    go_enter Try.func27, Try.ntmps27
    go_wp2_with fail
    refine (M.out _ (by repeat (first | exact Below.refl _ _ | refine Below.alloc_ ?_ _ | refine Below.drew ?_ | refine below_drewN ?_ | refine Below.setCell ?_ (by first | (simp; done) | (simp; omega)) _))).mono ?_
    rintro e w1 ⟨rfl, rfl⟩
    go_wp2_with (go_at_call 47; refine (refuse_any _ _ _).mono ?_; rintro e w' ⟨rfl, rfl⟩)
    refine bodyPost_ret (v := .tuple #[.agg #[.int .u64 0, .int .i64 0], .iface 97 (.pointer (some ⟨w.heap.size + 1, 0, none⟩))]) ?_ rfl (?_ : NoB 0 184 w _ _)
    · simp [results, Try.results27, go_sem, *]
    · exact ⟨_, rfl, Err1.new' (by simp) (by omega), (by repeat (first | exact Below.refl _ _ | refine Below.alloc_ ?_ _ | refine Below.drew ?_ | refine below_drewN ?_ | refine Below.setCell ?_ (by first | (simp; done) | (simp; omega)) _))⟩
  · have hd : decide (n > c.mn * (2 * c.f + 1)) = false := decide_eq_false c0
    by_cases e0 : n = 0
    · subst e0
      rw [show rankedB c 0 = some (0, 0) from by simp [rankedB]; omega]
      go_enter Try.func27, Try.ntmps27
      go_wp2_with fail
      refine (M.out _ (by repeat (first | exact Below.refl _ _ | refine Below.alloc_ ?_ _ | refine Below.drew ?_ | refine below_drewN ?_ | refine Below.setCell ?_ (by first | (simp; done) | (simp; omega)) _))).mono ?_
      rintro e w1 ⟨rfl, rfl⟩
      go_wp2
      exact bodyPost_ret (v := .tuple #[.agg #[.int .u64 0, .int .i64 0], .nilIface]) (by simp [results, Try.results27, go_sem, *]) rfl ⟨rfl, (by repeat (first | exact Below.refl _ _ | refine Below.alloc_ ?_ _ | refine Below.drew ?_ | refine below_drewN ?_ | refine Below.setCell ?_ (by first | (simp; done) | (simp; omega)) _))⟩
    · have hnb : (n == 0) = false := beq_eq_false_iff_ne.mpr e0
      have hk : (2 * c.f + 1 == 0) = false := beq_eq_false_iff_ne.mpr (by omega)
      have hk' : ¬ 2 * c.f + 1 = 0 := by omega
      have e1 : IntKind.u64.wrap (n - 1) = n - 1 := by simp only [IntKind.wrap, IntKind.signed, IntKind.bits]; simp; omega
      have d0 : (n - 1).tdiv (2 * c.f + 1) = (n - 1) / (2 * c.f + 1) := Int.tdiv_eq_ediv_of_nonneg (by omega)
      have d1 : (n - 1).tmod (2 * c.f + 1) = (n - 1) % (2 * c.f + 1) := Int.tmod_eq_emod_of_nonneg (by omega)
      have d2 : 0 ≤ (n - 1) / (2 * c.f + 1) := Int.ediv_nonneg (by omega) (by omega)
      have d3 : (n - 1) / (2 * c.f + 1) ≤ n - 1 := Int.ediv_le_self _ (by omega)
      have d4 : 0 ≤ (n - 1) % (2 * c.f + 1) := Int.emod_nonneg _ (by omega)
      have d5 : (n - 1) % (2 * c.f + 1) < 2 * c.f + 1 := Int.emod_lt_of_pos _ (by omega)
      have e3 : IntKind.u64.wrap ((n - 1) / (2 * c.f + 1)) = (n - 1) / (2 * c.f + 1) := by simp only [IntKind.wrap, IntKind.signed, IntKind.bits]; simp; omega
      have e5 : IntKind.u64.wrap ((n - 1) / (2 * c.f + 1) + 1) = (n - 1) / (2 * c.f + 1) + 1 := by simp only [IntKind.wrap, IntKind.signed, IntKind.bits]; simp; omega
      have e6 : IntKind.u64.wrap ((n - 1) % (2 * c.f + 1)) = (n - 1) % (2 * c.f + 1) := by simp only [IntKind.wrap, IntKind.signed, IntKind.bits]; simp; omega
      have e7 : IntKind.i64.wrap ((n - 1) % (2 * c.f + 1)) = (n - 1) % (2 * c.f + 1) := by simp only [IntKind.wrap, IntKind.signed, IntKind.bits]; simp; omega
      rw [show rankedB c n = some ((n - 1) / (2 * c.f + 1) + 1, (n - 1) % (2 * c.f + 1)) from by simp [rankedB, c0, e0]]
      go_enter Try.func27, Try.ntmps27
      go_wp2_with fail
      refine (M.out _ (by repeat (first | exact Below.refl _ _ | refine Below.alloc_ ?_ _ | refine Below.drew ?_ | refine below_drewN ?_ | refine Below.setCell ?_ (by first | (simp; done) | (simp; omega)) _))).mono ?_
      rintro e w1 ⟨rfl, rfl⟩
      go_wp2
      go_region
      all_goals go_wp2
      all_goals exact bodyPost_ret (v := .tuple #[.agg #[.int .u64 ((n - 1) / (2 * c.f + 1) + 1), .int .i64 ((n - 1) % (2 * c.f + 1))], .nilIface]) (by simp [results, Try.results27, go_sem, *]) rfl ⟨rfl, (by repeat (first | exact Below.refl _ _ | refine Below.alloc_ ?_ _ | refine Below.drew ?_ | refine below_drewN ?_ | refine Below.setCell ?_ (by first | (simp; done) | (simp; omega)) _))⟩
/-- The least ballot above that x leads. -/
def ownB (c : Cfg) (n d x : Int) : Option (Int × Int) :=
  let m := if lessB n d (max n 1) x then max n 1 else max n 1 + 1
  if c.mn < m then none else some (m, x)
set_option maxHeartbeats 1600000 in
theorem own_bad (b : Nat) (c : Cfg) (n d x : Int) (w : World) (hg : GrpAt w b c (2 * c.f + 1)) (h1 : 1 ≤ c.f) (h2 : c.f ≤ 3) (hn0 : 0 ≤ n) (hv : validB c n d = true) (hx : decide (0 ≤ x ∧ x < 2 * c.f + 1) = false) :
    Calls Try.prog 25 #[.pointer (some ⟨b, 0, none⟩), .agg #[.int .u64 n, .int .i64 d], .int .i64 x] w (NoB 1 182 w) := by
  have F := Lib.hid (FormYes.ok b c n d w hg h1 h2 hn0 hv)
  have NB : ∀ w1, Below w.heap.size w w1 → Calls Try.prog 24 #[.pointer (some ⟨b, 0, none⟩), .int .i64 x] w1 fun e w' => e = .returned (.bool false) ∧ w1 = w' := fun w1 hb => by
    have h := node_at b (2 * c.f + 1) x w1 (hg.below hg.lt hb).nodes (by omega)
    rw [hx] at h
    exact h
  have NB := Lib.hid NB
  clear hg hv
  go_enter Try.func25, Try.ntmps25
  go_wp2_with fail
  refine (F.out _ (by repeat (first | exact Below.refl _ _ | refine Below.alloc_ ?_ _ | refine Below.drew ?_ | refine below_drewN ?_ | refine Below.setCell ?_ (by first | (simp; done) | (simp; omega)) _))).mono ?_
  rintro e wa ⟨rfl, hb_wa⟩
  have hc_wa := (bcell hb_wa).1
  have hf_wa := (bcell hb_wa).2
  have hz_wa_0 : w.heap.size < wa.heap.size := by have h_ := hb_wa.size; (try simp at h_); omega
  have hz_wa_1 : w.heap.size + 1 < wa.heap.size := by have h_ := hb_wa.size; (try simp at h_); omega
  go_wp2_with fail
  refine (NB.out _ (by repeat (first | exact Below.refl _ _ | exact hb_wa | refine Below.on ?_ hb_wa | refine Below.alloc_ ?_ _ | refine Below.drew ?_ | refine below_drewN ?_ | refine Below.setCell ?_ (by first | (simp; done) | (simp; omega)) _))).mono ?_
  rintro e w1 ⟨rfl, rfl⟩
  go_wp2_with (go_at_call 47; refine (refuse_any _ _ _).mono ?_; rintro e w' ⟨rfl, rfl⟩)
  refine bodyPost_ret (v := .tuple #[.agg #[.int .u64 0, .int .i64 0], .iface 97 (.pointer (some ⟨wa.heap.size, 0, none⟩))]) ?_ rfl (?_ : NoB 1 182 w _ _)
  · simp [results, Try.results25, go_sem, *]
  · exact ⟨_, rfl, Err1.new' (by simp) (by omega), (by repeat (first | exact Below.refl _ _ | exact hb_wa | refine Below.on ?_ hb_wa | refine Below.alloc_ ?_ _ | refine Below.drew ?_ | refine below_drewN ?_ | refine Below.setCell ?_ (by first | (simp; done) | (simp; omega)) _))⟩
set_option maxHeartbeats 3200000 in
theorem own_ok (b : Nat) (c : Cfg) (n d x : Int) (w : World) (hg : GrpAt w b c (2 * c.f + 1)) (h1 : 1 ≤ c.f) (h2 : c.f ≤ 3) (hn0 : 0 ≤ n) (hm0 : 1 ≤ c.mn) (hm : c.mn ≤ 1099511627776) (hv : validB c n d = true) (hx : decide (0 ≤ x ∧ x < 2 * c.f + 1) = true) :
    Calls Try.prog 25 #[.pointer (some ⟨b, 0, none⟩), .agg #[.int .u64 n, .int .i64 d], .int .i64 x] w fun e w' => match ownB c n d x with | some (y, z) => GotB y z w e w' | none => NoB 0 183 w e w' := by
  have F := Lib.hid (FormYes.ok b c n d w hg h1 h2 hn0 hv)
  have NB : ∀ w1, Below w.heap.size w w1 → Calls Try.prog 24 #[.pointer (some ⟨b, 0, none⟩), .int .i64 x] w1 fun e w' => e = .returned (.bool true) ∧ w1 = w' := fun w1 hb => by
    have h := node_at b (2 * c.f + 1) x w1 (hg.below hg.lt hb).nodes (by omega)
    rw [hx] at h
    exact h
  have NB := Lib.hid NB
  have hv' : n = 0 ∧ d = 0 ∨ 1 ≤ n ∧ n ≤ c.mn ∧ 0 ≤ d ∧ d < 2 * c.f + 1 := by simpa [validB] using hv
  have q8 := hg.mn
  have hlt := hg.lt
  have hlt1 : b < w.heap.size + 1 := by omega
  have hlt2 : b < w.heap.size + 1 + 1 := by omega
  have hn1 : n ≤ c.mn := by omega
  clear hg hv hx hv'
  by_cases e0 : n = 0
  · subst e0
    have el : lessB 0 d 1 x = true := by simp [lessB, cmpB, cmpI]
    have el' := el
    have em : max (0 : Int) 1 = 1 := by decide
    rw [show ownB c 0 d x = some (1, x) from by simp only [ownB, em, el]; simp; omega]
    have hd : decide (1 > c.mn) = false := decide_eq_false (by omega)
    go_enter Try.func25, Try.ntmps25
    go_wp2_with fail
    refine (F.out _ (by repeat (first | exact Below.refl _ _ | refine Below.alloc_ ?_ _ | refine Below.drew ?_ | refine below_drewN ?_ | refine Below.setCell ?_ (by first | (simp; done) | (simp; omega)) _))).mono ?_
    rintro e wa ⟨rfl, hb_wa⟩
    have hc_wa := (bcell hb_wa).1
    have hf_wa := (bcell hb_wa).2
    have hz_wa_0 : w.heap.size < wa.heap.size := by have h_ := hb_wa.size; (try simp at h_); omega
    have hz_wa_1 : w.heap.size + 1 < wa.heap.size := by have h_ := hb_wa.size; (try simp at h_); omega
    have hba : b < wa.heap.size := by omega
    go_wp2_with fail
    refine (NB.out _ (by repeat (first | exact Below.refl _ _ | exact hb_wa | refine Below.on ?_ hb_wa | refine Below.alloc_ ?_ _ | refine Below.drew ?_ | refine below_drewN ?_ | refine Below.setCell ?_ (by first | (simp; done) | (simp; omega)) _))).mono ?_
    rintro e w1 ⟨rfl, rfl⟩
    go_wp2_with fail
    refine (less_any _ _ _ _ _).mono ?_
    rintro e wb ⟨rfl, hb_wb⟩
    have hc_wb := (bcell hb_wb).1
    have hf_wb := (bcell hb_wb).2
    try rw [el]
    have hz_wb : wa.heap.size < wb.heap.size := by have h_ := hb_wb.size; (try simp at h_); omega
    have hbb : b < wb.heap.size := by omega
    have hwb0 : w.heap.size < wb.heap.size := by omega
    have hwb1 : w.heap.size + 1 < wb.heap.size := by omega
    go_wp2
    refine wp_region_below (by kernel_rfl) (by kernel_rfl) ?_
    repeat first | go_big_quiet_skip | (go_big_quiet_want; go_big_quiet_op; go_big_quiet_on) | (go_big_quiet_want; rename_i K hK; apply quiet_mk; (focus (intro w1 hw1; have hc1 := (bcell hw1).1; have hf1 := (bcell hw1).2; go_simp; first | done | rfl | (fail))); refine hK _ ?_; clear hK K; try simp only [Act.put, List.setIfInBounds_toArray, List.set_cons_zero, List.set_cons_succ])
    refine wpQuiet_nil ?_
    intro wx hb_wx
    have hc_wx := (bcell hb_wx).1
    have hf_wx := (bcell hb_wx).2
    have hz_wx : wa.heap.size < wx.heap.size := by have h_ := hb_wx.size; (try simp at h_); omega
    have hwx0 : w.heap.size < wx.heap.size := by omega
    have hwx1 : w.heap.size + 1 < wx.heap.size := by omega
    go_wp2
    exact bodyPost_ret (v := .tuple #[.agg #[.int .u64 1, .int .i64 x], .nilIface]) (by simp [results, Try.results25, go_sem, *]) rfl ⟨rfl, (by repeat (first | exact Below.refl _ _ | exact hb_wa | refine Below.on ?_ hb_wa | exact hb_wb | refine Below.on ?_ hb_wb | exact hb_wx | refine Below.on ?_ hb_wx | refine Below.alloc_ ?_ _ | refine Below.drew ?_ | refine below_drewN ?_ | refine Below.setCell ?_ (by first | (simp; done) | (simp; omega)) _))⟩
  · have hn2 : 1 ≤ n := by omega
    have em : max n 1 = n := by omega
    have e1 : IntKind.u64.wrap (n + 1) = n + 1 := by simp only [IntKind.wrap, IntKind.signed, IntKind.bits]; simp; omega
    by_cases el : lessB n d n x = true
    · rw [show ownB c n d x = some (n, x) from by simp [ownB, em, el]; omega]
      have hd : decide (n > c.mn) = false := decide_eq_false (by omega)
      go_enter Try.func25, Try.ntmps25
      go_wp2_with fail
      refine (F.out _ (by repeat (first | exact Below.refl _ _ | refine Below.alloc_ ?_ _ | refine Below.drew ?_ | refine below_drewN ?_ | refine Below.setCell ?_ (by first | (simp; done) | (simp; omega)) _))).mono ?_
      rintro e wa ⟨rfl, hb_wa⟩
      have hc_wa := (bcell hb_wa).1
      have hf_wa := (bcell hb_wa).2
      have hz_wa_0 : w.heap.size < wa.heap.size := by have h_ := hb_wa.size; (try simp at h_); omega
      have hz_wa_1 : w.heap.size + 1 < wa.heap.size := by have h_ := hb_wa.size; (try simp at h_); omega
      have hba : b < wa.heap.size := by omega
      go_wp2_with fail
      refine (NB.out _ (by repeat (first | exact Below.refl _ _ | exact hb_wa | refine Below.on ?_ hb_wa | refine Below.alloc_ ?_ _ | refine Below.drew ?_ | refine below_drewN ?_ | refine Below.setCell ?_ (by first | (simp; done) | (simp; omega)) _))).mono ?_
      rintro e w1 ⟨rfl, rfl⟩
      go_wp2_with fail
      refine (less_any _ _ _ _ _).mono ?_
      rintro e wb ⟨rfl, hb_wb⟩
      have hc_wb := (bcell hb_wb).1
      have hf_wb := (bcell hb_wb).2
      try rw [el]
      have hz_wb : wa.heap.size < wb.heap.size := by have h_ := hb_wb.size; (try simp at h_); omega
      have hbb : b < wb.heap.size := by omega
      have hwb0 : w.heap.size < wb.heap.size := by omega
      have hwb1 : w.heap.size + 1 < wb.heap.size := by omega
      go_wp2
      refine wp_region_below (by kernel_rfl) (by kernel_rfl) ?_
      repeat first | go_big_quiet_skip | (go_big_quiet_want; go_big_quiet_op; go_big_quiet_on) | (go_big_quiet_want; rename_i K hK; apply quiet_mk; (focus (intro w1 hw1; have hc1 := (bcell hw1).1; have hf1 := (bcell hw1).2; go_simp; first | done | rfl | (fail))); refine hK _ ?_; clear hK K; try simp only [Act.put, List.setIfInBounds_toArray, List.set_cons_zero, List.set_cons_succ])
      refine wpQuiet_nil ?_
      intro wx hb_wx
      have hc_wx := (bcell hb_wx).1
      have hf_wx := (bcell hb_wx).2
      have hz_wx : wa.heap.size < wx.heap.size := by have h_ := hb_wx.size; (try simp at h_); omega
      have hwx0 : w.heap.size < wx.heap.size := by omega
      have hwx1 : w.heap.size + 1 < wx.heap.size := by omega
      go_wp2
      exact bodyPost_ret (v := .tuple #[.agg #[.int .u64 n, .int .i64 x], .nilIface]) (by simp [results, Try.results25, go_sem, *]) rfl ⟨rfl, (by repeat (first | exact Below.refl _ _ | exact hb_wa | refine Below.on ?_ hb_wa | exact hb_wb | refine Below.on ?_ hb_wb | exact hb_wx | refine Below.on ?_ hb_wx | refine Below.alloc_ ?_ _ | refine Below.drew ?_ | refine below_drewN ?_ | refine Below.setCell ?_ (by first | (simp; done) | (simp; omega)) _))⟩
    · have el : lessB n d n x = false := by simpa using el
      by_cases eb : c.mn < n + 1
      · rw [show ownB c n d x = none from by simp [ownB, em, el]; omega]
        have hd : decide (n + 1 > c.mn) = true := decide_eq_true eb
        go_enter Try.func25, Try.ntmps25
        go_wp2_with fail
        refine (F.out _ (by repeat (first | exact Below.refl _ _ | refine Below.alloc_ ?_ _ | refine Below.drew ?_ | refine below_drewN ?_ | refine Below.setCell ?_ (by first | (simp; done) | (simp; omega)) _))).mono ?_
        rintro e wa ⟨rfl, hb_wa⟩
        have hc_wa := (bcell hb_wa).1
        have hf_wa := (bcell hb_wa).2
        have hz_wa_0 : w.heap.size < wa.heap.size := by have h_ := hb_wa.size; (try simp at h_); omega
        have hz_wa_1 : w.heap.size + 1 < wa.heap.size := by have h_ := hb_wa.size; (try simp at h_); omega
        have hba : b < wa.heap.size := by omega
        go_wp2_with fail
        refine (NB.out _ (by repeat (first | exact Below.refl _ _ | exact hb_wa | refine Below.on ?_ hb_wa | refine Below.alloc_ ?_ _ | refine Below.drew ?_ | refine below_drewN ?_ | refine Below.setCell ?_ (by first | (simp; done) | (simp; omega)) _))).mono ?_
        rintro e w1 ⟨rfl, rfl⟩
        go_wp2_with fail
        refine (less_any _ _ _ _ _).mono ?_
        rintro e wb ⟨rfl, hb_wb⟩
        have hc_wb := (bcell hb_wb).1
        have hf_wb := (bcell hb_wb).2
        try rw [el]
        have hz_wb : wa.heap.size < wb.heap.size := by have h_ := hb_wb.size; (try simp at h_); omega
        have hbb : b < wb.heap.size := by omega
        have hwb0 : w.heap.size < wb.heap.size := by omega
        have hwb1 : w.heap.size + 1 < wb.heap.size := by omega
        go_wp2
        refine wp_region_below (by kernel_rfl) (by kernel_rfl) ?_
        repeat first | go_big_quiet_skip | (go_big_quiet_want; go_big_quiet_op; go_big_quiet_on) | (go_big_quiet_want; rename_i K hK; apply quiet_mk; (focus (intro w1 hw1; have hc1 := (bcell hw1).1; have hf1 := (bcell hw1).2; go_simp; first | done | rfl | (fail))); refine hK _ ?_; clear hK K; try simp only [Act.put, List.setIfInBounds_toArray, List.set_cons_zero, List.set_cons_succ])
        refine wpQuiet_nil ?_
        intro wx hb_wx
        have hc_wx := (bcell hb_wx).1
        have hf_wx := (bcell hb_wx).2
        have hz_wx : wa.heap.size < wx.heap.size := by have h_ := hb_wx.size; (try simp at h_); omega
        have hwx0 : w.heap.size < wx.heap.size := by omega
        have hwx1 : w.heap.size + 1 < wx.heap.size := by omega
        go_wp2_with (go_at_call 47; refine (refuse_any _ _ _).mono ?_; rintro e w' ⟨rfl, rfl⟩)
        refine bodyPost_ret (v := .tuple #[.agg #[.int .u64 0, .int .i64 0], .iface 97 (.pointer (some ⟨wx.heap.size, 0, none⟩))]) ?_ rfl (?_ : NoB 0 183 w _ _)
        · simp [results, Try.results25, go_sem, *]
        · exact ⟨_, rfl, Err1.new' (by simp) (by omega), (by repeat (first | exact Below.refl _ _ | exact hb_wa | refine Below.on ?_ hb_wa | exact hb_wb | refine Below.on ?_ hb_wb | exact hb_wx | refine Below.on ?_ hb_wx | refine Below.alloc_ ?_ _ | refine Below.drew ?_ | refine below_drewN ?_ | refine Below.setCell ?_ (by first | (simp; done) | (simp; omega)) _))⟩
      · rw [show ownB c n d x = some (n + 1, x) from by simp [ownB, em, el]; omega]
        have hd : decide (n + 1 > c.mn) = false := decide_eq_false eb
        go_enter Try.func25, Try.ntmps25
        go_wp2_with fail
        refine (F.out _ (by repeat (first | exact Below.refl _ _ | refine Below.alloc_ ?_ _ | refine Below.drew ?_ | refine below_drewN ?_ | refine Below.setCell ?_ (by first | (simp; done) | (simp; omega)) _))).mono ?_
        rintro e wa ⟨rfl, hb_wa⟩
        have hc_wa := (bcell hb_wa).1
        have hf_wa := (bcell hb_wa).2
        have hz_wa_0 : w.heap.size < wa.heap.size := by have h_ := hb_wa.size; (try simp at h_); omega
        have hz_wa_1 : w.heap.size + 1 < wa.heap.size := by have h_ := hb_wa.size; (try simp at h_); omega
        have hba : b < wa.heap.size := by omega
        go_wp2_with fail
        refine (NB.out _ (by repeat (first | exact Below.refl _ _ | exact hb_wa | refine Below.on ?_ hb_wa | refine Below.alloc_ ?_ _ | refine Below.drew ?_ | refine below_drewN ?_ | refine Below.setCell ?_ (by first | (simp; done) | (simp; omega)) _))).mono ?_
        rintro e w1 ⟨rfl, rfl⟩
        go_wp2_with fail
        refine (less_any _ _ _ _ _).mono ?_
        rintro e wb ⟨rfl, hb_wb⟩
        have hc_wb := (bcell hb_wb).1
        have hf_wb := (bcell hb_wb).2
        try rw [el]
        have hz_wb : wa.heap.size < wb.heap.size := by have h_ := hb_wb.size; (try simp at h_); omega
        have hbb : b < wb.heap.size := by omega
        have hwb0 : w.heap.size < wb.heap.size := by omega
        have hwb1 : w.heap.size + 1 < wb.heap.size := by omega
        go_wp2
        refine wp_region_below (by kernel_rfl) (by kernel_rfl) ?_
        repeat first | go_big_quiet_skip | (go_big_quiet_want; go_big_quiet_op; go_big_quiet_on) | (go_big_quiet_want; rename_i K hK; apply quiet_mk; (focus (intro w1 hw1; have hc1 := (bcell hw1).1; have hf1 := (bcell hw1).2; go_simp; first | done | rfl | (fail))); refine hK _ ?_; clear hK K; try simp only [Act.put, List.setIfInBounds_toArray, List.set_cons_zero, List.set_cons_succ])
        refine wpQuiet_nil ?_
        intro wx hb_wx
        have hc_wx := (bcell hb_wx).1
        have hf_wx := (bcell hb_wx).2
        have hz_wx : wa.heap.size < wx.heap.size := by have h_ := hb_wx.size; (try simp at h_); omega
        have hwx0 : w.heap.size < wx.heap.size := by omega
        have hwx1 : w.heap.size + 1 < wx.heap.size := by omega
        go_wp2
        exact bodyPost_ret (v := .tuple #[.agg #[.int .u64 (n + 1), .int .i64 x], .nilIface]) (by simp [results, Try.results25, go_sem, *]) rfl ⟨rfl, (by repeat (first | exact Below.refl _ _ | exact hb_wa | refine Below.on ?_ hb_wa | exact hb_wb | refine Below.on ?_ hb_wb | exact hb_wx | refine Below.on ?_ hb_wx | refine Below.alloc_ ?_ _ | refine Below.drew ?_ | refine below_drewN ?_ | refine Below.setCell ?_ (by first | (simp; done) | (simp; omega)) _))⟩
end Go.Proofs.Ytehmbcpgendkjaa
