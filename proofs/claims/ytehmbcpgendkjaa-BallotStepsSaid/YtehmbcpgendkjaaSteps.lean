import Derived.Test.YtehmbcpgendkjaaOrders
namespace Go.Proofs.Ytehmbcpgendkjaa
open Go.RowKit
set_option linter.unusedSimpArgs false
set_option linter.unusedVariables false
/-- A refusal of the layer's own, in a block from B on. -/
structure Err1 (w : World) (B q : Nat) (i k : Int) : Prop where
  ge : B ≤ q
  lt : q < w.heap.size
  c0 : w.cell? ⟨q, 0, none⟩ = some (.string ballotS)
  c1 : w.cell? ⟨q, 1, none⟩ = some (.int .i64 i)
  c2 : w.cell? ⟨q, 2, none⟩ = some (.iface 22 (.int .i64 k))
theorem Err1.is {w : World} {B q : Nat} {i k : Int} (h : Err1 w B q i k) : ErrIs w [(ballotS, i)] k (.iface 97 (.pointer (some ⟨q, 0, none⟩))) := ErrIs.mk1 h.lt h.c0 h.c1 h.c2
theorem Err1.mono {w : World} {B B' q : Nat} {i k : Int} (h : Err1 w B q i k) (hB : B' ≤ B) : Err1 w B' q i k := ⟨Nat.le_trans hB h.ge, h.lt, h.c0, h.c1, h.c2⟩
theorem Err1.setCell {w : World} {B q : Nat} {i k : Int} (h : Err1 w B q i k) (p : Addr) (u : Value) (hp : p.block < B) : Err1 (w.setCell p u) B q i k := by
  have hne : ∀ o, (w.setCell p u).cell? ⟨q, o, none⟩ = w.cell? ⟨q, o, none⟩ := fun o => World.cell?_setCell_far _ _ _ _ (by have := h.ge; simp; omega)
  exact ⟨h.ge, by simpa [World.setCell] using h.lt, (hne 0).trans h.c0, (hne 1).trans h.c1, (hne 2).trans h.c2⟩
theorem Err1.below {w w' : World} {B q : Nat} {i k : Int} (h : Err1 w B q i k) (hb : Below w.heap.size w w') : Err1 w' B q i k :=
  ⟨h.ge, Nat.lt_of_lt_of_le h.lt hb.size, (hb.cell (p := ⟨q, 0, none⟩) h.lt).trans h.c0, (hb.cell (p := ⟨q, 1, none⟩) h.lt).trans h.c1, (hb.cell (p := ⟨q, 2, none⟩) h.lt).trans h.c2⟩
theorem Err1.new' {w : World} {B q : Nat} {i k : Int} (hq : q = w.heap.size) (hB : B ≤ q) : Err1 (w.alloc (.cells #[.string ⟨#[98, 97, 108, 108, 111, 116]⟩, .int .i64 i, .iface 22 (.int .i64 k)] 99)) B q i k := by
  subst hq
  exact ⟨hB, by simp, by simp [ballotS], by simp, by simp⟩
/-- A group that no New made. -/
def NotMade (w : World) (p : Option Addr) : Prop := p = none ∨ ∃ b, p = some ⟨b, 0, none⟩ ∧ b < w.heap.size ∧ w.cell? ⟨b, 10, none⟩ = some (.int .i64 0)
theorem NotMade.below {w w' : World} {p : Option Addr} (h : NotMade w p) (hb : Below w.heap.size w w') : NotMade w' p := by
  rcases h with h | ⟨b, h1, h2, h3⟩
  · exact .inl h
  · exact .inr ⟨b, h1, Nat.lt_of_lt_of_le h2 hb.size, (hb.cell (p := ⟨b, 10, none⟩) h2).trans h3⟩
theorem made_not (p : Option Addr) (w : World) (h : NotMade w p) : Calls Try.prog 43 #[.pointer p] w fun e w' => e = .returned (.bool false) ∧ w = w' := by
  rcases h with rfl | ⟨b, rfl, _, h⟩
  · exact made_nil w
  · exact made_at b 0 w h
theorem form_not (p : Option Addr) (n d : Int) (w : World) (h : NotMade w p) : Calls Try.prog 46 #[.pointer p, .agg #[.int .u64 n, .int .i64 d]] w fun e w' => ∃ q, e = .returned (.iface 97 (.pointer (some ⟨q, 0, none⟩))) ∧ Err1 w' w.heap.size q 0 3 ∧ Below w.heap.size w w' := by
  have M := fun w1 hb => made_not p w1 (h.below (w' := w1) hb)
  have M := Lib.hid M
  clear h
  go_enter Try.func46, Try.ntmps46
  go_wp2_with fail
  refine (M.out _ (by repeat (first | exact Below.refl _ _ | refine Below.alloc_ ?_ _ | refine Below.drew ?_ | refine below_drewN ?_ | refine Below.setCell ?_ (by first | (simp; done) | (simp; omega)) _))).mono ?_
  rintro e w1 ⟨rfl, rfl⟩
  go_wp2_with (go_at_call 47; refine (refuse_any _ _ _).mono ?_; rintro e w' ⟨rfl, rfl⟩)
  go_ret
  exact ⟨_, rfl, Err1.new' (by simp) (by simp), (by repeat (first | exact Below.refl _ _ | refine Below.alloc_ ?_ _ | refine Below.drew ?_ | refine below_drewN ?_ | refine Below.setCell ?_ (by first | (simp; done) | (simp; omega)) _))⟩
theorem form_ok (b : Nat) (c : Cfg) (n d : Int) (w : World) (hg : GrpAt w b c (2 * c.f + 1)) (h1 : 1 ≤ c.f) (h2 : c.f ≤ 3) (hn0 : 0 ≤ n) (hv : validB c n d = true) :
    Calls Try.prog 46 #[.pointer (some ⟨b, 0, none⟩), .agg #[.int .u64 n, .int .i64 d]] w fun e w' => e = .returned .nilIface ∧ Below w.heap.size w w' := by
  have M : ∀ w1, Below w.heap.size w w1 → Calls Try.prog 43 #[.pointer (some ⟨b, 0, none⟩)] w1 fun e w' => e = .returned (.bool true) ∧ w1 = w' := fun w1 hb => by
    have h := made_at b (2 * c.f + 1) w1 (hg.below hg.lt hb).nodes
    rw [show decide (0 < 2 * c.f + 1) = true from decide_eq_true (by omega)] at h
    exact h
  have V : ∀ w1, Below w.heap.size w w1 → Calls Try.prog 20 #[.pointer (some ⟨b, 0, none⟩), .agg #[.int .u64 n, .int .i64 d]] w1 fun e w' => e = .returned (.bool true) ∧ Below w1.heap.size w1 w' := fun w1 hb => by
    have h := valid_at b c n d w1 (hg.below hg.lt hb) h1 h2 hn0
    rw [hv] at h
    exact h
  have M := Lib.hid M
  have V := Lib.hid V
  clear hg hv
  go_enter Try.func46, Try.ntmps46
  go_wp2_with fail
  refine (M.out _ (by repeat (first | exact Below.refl _ _ | refine Below.alloc_ ?_ _ | refine Below.drew ?_ | refine below_drewN ?_ | refine Below.setCell ?_ (by first | (simp; done) | (simp; omega)) _))).mono ?_
  rintro e w1 ⟨rfl, rfl⟩
  go_wp2_with fail
  refine (V.out _ (by repeat (first | exact Below.refl _ _ | refine Below.alloc_ ?_ _ | refine Below.drew ?_ | refine below_drewN ?_ | refine Below.setCell ?_ (by first | (simp; done) | (simp; omega)) _))).mono ?_
  rintro e wa ⟨rfl, hb_wa⟩
  go_wp2
  go_ret
  exact ⟨rfl, (by repeat (first | exact Below.refl _ _ | exact hb_wa | refine Below.on ?_ hb_wa | refine Below.alloc_ ?_ _ | refine Below.drew ?_ | refine below_drewN ?_ | refine Below.setCell ?_ (by first | (simp; done) | (simp; omega)) _))⟩
theorem form_bad (b : Nat) (c : Cfg) (n d : Int) (w : World) (hg : GrpAt w b c (2 * c.f + 1)) (h1 : 1 ≤ c.f) (h2 : c.f ≤ 3) (hn0 : 0 ≤ n) (hv : validB c n d = false) :
    Calls Try.prog 46 #[.pointer (some ⟨b, 0, none⟩), .agg #[.int .u64 n, .int .i64 d]] w fun e w' => ∃ q, e = .returned (.iface 97 (.pointer (some ⟨q, 0, none⟩))) ∧ Err1 w' w.heap.size q 0 181 ∧ Below w.heap.size w w' := by
  have M : ∀ w1, Below w.heap.size w w1 → Calls Try.prog 43 #[.pointer (some ⟨b, 0, none⟩)] w1 fun e w' => e = .returned (.bool true) ∧ w1 = w' := fun w1 hb => by
    have h := made_at b (2 * c.f + 1) w1 (hg.below hg.lt hb).nodes
    rw [show decide (0 < 2 * c.f + 1) = true from decide_eq_true (by omega)] at h
    exact h
  have V : ∀ w1, Below w.heap.size w w1 → Calls Try.prog 20 #[.pointer (some ⟨b, 0, none⟩), .agg #[.int .u64 n, .int .i64 d]] w1 fun e w' => e = .returned (.bool false) ∧ Below w1.heap.size w1 w' := fun w1 hb => by
    have h := valid_at b c n d w1 (hg.below hg.lt hb) h1 h2 hn0
    rw [hv] at h
    exact h
  have M := Lib.hid M
  have V := Lib.hid V
  clear hg hv
  go_enter Try.func46, Try.ntmps46
  go_wp2_with fail
  refine (M.out _ (by repeat (first | exact Below.refl _ _ | refine Below.alloc_ ?_ _ | refine Below.drew ?_ | refine below_drewN ?_ | refine Below.setCell ?_ (by first | (simp; done) | (simp; omega)) _))).mono ?_
  rintro e w1 ⟨rfl, rfl⟩
  go_wp2_with fail
  refine (V.out _ (by repeat (first | exact Below.refl _ _ | refine Below.alloc_ ?_ _ | refine Below.drew ?_ | refine below_drewN ?_ | refine Below.setCell ?_ (by first | (simp; done) | (simp; omega)) _))).mono ?_
  rintro e wa ⟨rfl, hb_wa⟩
  go_wp2_with (go_at_call 47; refine (refuse_any _ _ _).mono ?_; rintro e w' ⟨rfl, rfl⟩)
  go_ret
  have h_ := hb_wa.size
  simp at h_
  exact ⟨_, rfl, Err1.new' (by simp) (by first | omega | (simp; omega)), (by repeat (first | exact Below.refl _ _ | exact hb_wa | refine Below.on ?_ hb_wa | refine Below.alloc_ ?_ _ | refine Below.drew ?_ | refine below_drewN ?_ | refine Below.setCell ?_ (by first | (simp; done) | (simp; omega)) _))⟩
/-- A ballot and no refusal. -/
def GotB (x y : Int) (w : World) (e : Ending) (w' : World) : Prop := e = .returned (.tuple #[.agg #[.int .u64 x, .int .i64 y], .nilIface]) ∧ Below w.heap.size w w'
/-- No ballot, and a refusal. -/
def NoB (i k : Int) (w : World) (e : Ending) (w' : World) : Prop := ∃ q, e = .returned (.tuple #[.agg #[.int .u64 0, .int .i64 0], .iface 97 (.pointer (some ⟨q, 0, none⟩))]) ∧ Err1 w' w.heap.size q i k ∧ Below w.heap.size w w'
set_option maxHeartbeats 1600000 in
theorem next_not (p : Option Addr) (n d : Int) (w : World) (h : NotMade w p) : Calls Try.prog 23 #[.pointer p, .agg #[.int .u64 n, .int .i64 d]] w (NoB 0 3 w) := by
  have F := fun w1 hb => form_not p n d w1 (h.below (w' := w1) hb)
  have F := Lib.hid F
  clear h
  go_enter Try.func23, Try.ntmps23
  go_wp2_with fail
  refine (F.out _ (by repeat (first | exact Below.refl _ _ | refine Below.alloc_ ?_ _ | refine Below.drew ?_ | refine below_drewN ?_ | refine Below.setCell ?_ (by first | (simp; done) | (simp; omega)) _))).mono ?_
  rintro e wa ⟨q, rfl, he, hb_wa⟩
  have HE := Lib.hid he
  have hc_wa := (bcell hb_wa).1
  have hf_wa := (bcell hb_wa).2
  clear he
  have hz_wa_0 : w.heap.size < wa.heap.size := by have h_ := hb_wa.size; (try simp at h_); omega
  have hz_wa_1 : w.heap.size + 1 < wa.heap.size := by have h_ := hb_wa.size; (try simp at h_); omega
  go_wp2
  exact bodyPost_ret (v := .tuple #[.agg #[.int .u64 0, .int .i64 0], .iface 97 (.pointer (some ⟨q, 0, none⟩))]) (by simp [results, Try.results23, go_sem, *]) rfl ⟨q, rfl, ((HE.out.setCell _ _ (by simp)).setCell _ _ (by simp)).mono (by simp; omega), (by repeat (first | exact Below.refl _ _ | exact hb_wa | refine Below.on ?_ hb_wa | refine Below.alloc_ ?_ _ | refine Below.drew ?_ | refine below_drewN ?_ | refine Below.setCell ?_ (by first | (simp; done) | (simp; omega)) _))⟩

set_option maxHeartbeats 1600000 in
theorem next_bad (b : Nat) (c : Cfg) (n d : Int) (w : World) (hg : GrpAt w b c (2 * c.f + 1)) (h1 : 1 ≤ c.f) (h2 : c.f ≤ 3) (hn0 : 0 ≤ n) (hv : validB c n d = false) : Calls Try.prog 23 #[.pointer (some ⟨b, 0, none⟩), .agg #[.int .u64 n, .int .i64 d]] w (NoB 0 181 w) := by
  have F := fun w1 hb => form_bad b c n d w1 (hg.below (w' := w1) hg.lt hb) h1 h2 hn0 hv
  have F := Lib.hid F
  clear hg hv
  go_enter Try.func23, Try.ntmps23
  go_wp2_with fail
  refine (F.out _ (by repeat (first | exact Below.refl _ _ | refine Below.alloc_ ?_ _ | refine Below.drew ?_ | refine below_drewN ?_ | refine Below.setCell ?_ (by first | (simp; done) | (simp; omega)) _))).mono ?_
  rintro e wa ⟨q, rfl, he, hb_wa⟩
  have HE := Lib.hid he
  have hc_wa := (bcell hb_wa).1
  have hf_wa := (bcell hb_wa).2
  clear he
  have hz_wa_0 : w.heap.size < wa.heap.size := by have h_ := hb_wa.size; (try simp at h_); omega
  have hz_wa_1 : w.heap.size + 1 < wa.heap.size := by have h_ := hb_wa.size; (try simp at h_); omega
  go_wp2
  exact bodyPost_ret (v := .tuple #[.agg #[.int .u64 0, .int .i64 0], .iface 97 (.pointer (some ⟨q, 0, none⟩))]) (by simp [results, Try.results23, go_sem, *]) rfl ⟨q, rfl, ((HE.out.setCell _ _ (by simp)).setCell _ _ (by simp)).mono (by simp; omega), (by repeat (first | exact Below.refl _ _ | exact hb_wa | refine Below.on ?_ hb_wa | refine Below.alloc_ ?_ _ | refine Below.drew ?_ | refine below_drewN ?_ | refine Below.setCell ?_ (by first | (simp; done) | (simp; omega)) _))⟩

/-- The ballot next above. -/
def nextB (c : Cfg) (n d : Int) : Option (Int × Int) := if n = 0 then some (1, 0) else if d < 2 * c.f then some (n, d + 1) else if n = c.mn then none else some (n + 1, 0)
set_option maxHeartbeats 3200000 in
theorem next_ok (b : Nat) (c : Cfg) (n d : Int) (w : World) (hg : GrpAt w b c (2 * c.f + 1)) (h1 : 1 ≤ c.f) (h2 : c.f ≤ 3) (hn0 : 0 ≤ n) (hm : c.mn ≤ 1099511627776) (hv : validB c n d = true) :
    Calls Try.prog 23 #[.pointer (some ⟨b, 0, none⟩), .agg #[.int .u64 n, .int .i64 d]] w fun e w' => match nextB c n d with | some (x, y) => GotB x y w e w' | none => NoB 0 183 w e w' := by
  have F := fun w1 hb => form_ok b c n d w1 (hg.below (w' := w1) hg.lt hb) h1 h2 hn0 hv
  have F := Lib.hid F
  have hv' : n = 0 ∧ d = 0 ∨ 1 ≤ n ∧ n ≤ c.mn ∧ 0 ≤ d ∧ d < 2 * c.f + 1 := by simpa [validB] using hv
  have q10 := hg.nodes
  have q8 := hg.mn
  have hlt := hg.lt
  have hlt1 : b < w.heap.size + 1 := by omega
  have hlt2 : b < w.heap.size + 1 + 1 := by omega
  have hne1 : ¬ b = w.heap.size + 1 := by omega
  clear hg hv
  have ew : IntKind.i64.wrap (2 * c.f + 1 - 1) = 2 * c.f := by rw [show 2 * c.f + 1 - 1 = 2 * c.f from by omega]; simp only [IntKind.wrap, IntKind.signed, IntKind.bits]; simp; omega
  have ew2 : IntKind.i64.wrap (2 * c.f) = 2 * c.f := by simp only [IntKind.wrap, IntKind.signed, IntKind.bits]; simp; omega
  by_cases e0 : n = 0
  · subst e0
    rw [show nextB c 0 d = some (1, 0) from by simp [nextB]]
    have HV := Lib.hid hv'
    clear hv'
    go_enter Try.func23, Try.ntmps23
    go_wp2_with fail
    refine (F.out _ (by repeat (first | exact Below.refl _ _ | refine Below.alloc_ ?_ _ | refine Below.drew ?_ | refine below_drewN ?_ | refine Below.setCell ?_ (by first | (simp; done) | (simp; omega)) _))).mono ?_
    rintro e wa ⟨rfl, hb_wa⟩
    have hc_wa := (bcell hb_wa).1
    have hf_wa := (bcell hb_wa).2
    have hz_wa_0 : w.heap.size < wa.heap.size := by have h_ := hb_wa.size; (try simp at h_); omega
    have hz_wa_1 : w.heap.size + 1 < wa.heap.size := by have h_ := hb_wa.size; (try simp at h_); omega
    go_wp2
    exact bodyPost_ret (v := .tuple #[.agg #[.int .u64 1, .int .i64 0], .nilIface]) (by simp [results, Try.results23, go_sem, *]) rfl ⟨rfl, (by repeat (first | exact Below.refl _ _ | exact hb_wa | refine Below.on ?_ hb_wa | refine Below.alloc_ ?_ _ | refine Below.drew ?_ | refine below_drewN ?_ | refine Below.setCell ?_ (by first | (simp; done) | (simp; omega)) _))⟩
  · have hnb : (n == 0) = false := beq_eq_false_iff_ne.mpr e0
    have hd0 : 0 ≤ d := by omega
    have hd1 : d < 2 * c.f + 1 := by omega
    have hnm : n ≤ c.mn := by omega
    have hn1 : 1 ≤ n := by omega
    clear hv'
    by_cases e1 : d < 2 * c.f
    · rw [show nextB c n d = some (n, d + 1) from by simp [nextB, e0, e1]]
      have hd : decide (d < 2 * c.f) = true := decide_eq_true e1
      go_enter Try.func23, Try.ntmps23
      go_wp2_with fail
      refine (F.out _ (by repeat (first | exact Below.refl _ _ | refine Below.alloc_ ?_ _ | refine Below.drew ?_ | refine below_drewN ?_ | refine Below.setCell ?_ (by first | (simp; done) | (simp; omega)) _))).mono ?_
      rintro e wa ⟨rfl, hb_wa⟩
      have hc_wa := (bcell hb_wa).1
      have hf_wa := (bcell hb_wa).2
      have hz_wa_0 : w.heap.size < wa.heap.size := by have h_ := hb_wa.size; (try simp at h_); omega
      have hz_wa_1 : w.heap.size + 1 < wa.heap.size := by have h_ := hb_wa.size; (try simp at h_); omega
      go_wp2
      go_quiet (fail)
      go_wp2
      exact bodyPost_ret (v := .tuple #[.agg #[.int .u64 n, .int .i64 (d + 1)], .nilIface]) (by simp [results, Try.results23, go_sem, *]) rfl ⟨rfl, (by repeat (first | exact Below.refl _ _ | exact hb_wa | refine Below.on ?_ hb_wa | refine Below.alloc_ ?_ _ | refine Below.drew ?_ | refine below_drewN ?_ | refine Below.setCell ?_ (by first | (simp; done) | (simp; omega)) _))⟩
    · have hd : decide (d < 2 * c.f) = false := decide_eq_false e1
      by_cases e2 : n = c.mn
      · rw [show nextB c n d = none from by simp [nextB, e0, e1, e2]; intro h; omega]
        have hm1 : (n == c.mn) = true := beq_iff_eq.mpr e2
        have E2 := Lib.hid e2
        clear e2
        go_enter Try.func23, Try.ntmps23
        go_wp2_with fail
        refine (F.out _ (by repeat (first | exact Below.refl _ _ | refine Below.alloc_ ?_ _ | refine Below.drew ?_ | refine below_drewN ?_ | refine Below.setCell ?_ (by first | (simp; done) | (simp; omega)) _))).mono ?_
        rintro e wa ⟨rfl, hb_wa⟩
        have hc_wa := (bcell hb_wa).1
        have hf_wa := (bcell hb_wa).2
        have hz_wa_0 : w.heap.size < wa.heap.size := by have h_ := hb_wa.size; (try simp at h_); omega
        have hz_wa_1 : w.heap.size + 1 < wa.heap.size := by have h_ := hb_wa.size; (try simp at h_); omega
        have hba : b < wa.heap.size := by omega
        go_wp2
        refine wp_region_below (by kernel_rfl) (by kernel_rfl) ?_
        repeat first | go_big_quiet_skip | (go_big_quiet_want; go_big_quiet_op; go_big_quiet_on) | (go_big_quiet_want; rename_i K hK; apply quiet_mk; (focus (intro w1 hw1; have hc1 := (bcell hw1).1; have hf1 := (bcell hw1).2; go_simp; first | done | rfl | (fail))); refine hK _ ?_; clear hK K; try simp only [Act.put, List.setIfInBounds_toArray, List.set_cons_zero, List.set_cons_succ])
        refine wpQuiet_nil ?_
        intro wx hb_wx
        have hc_wx := (bcell hb_wx).1
        have hf_wx := (bcell hb_wx).2
        have hz_wx_0 : w.heap.size < wx.heap.size := by have h_ := hb_wx.size; (try simp at h_); omega
        have hz_wx_1 : w.heap.size + 1 < wx.heap.size := by have h_ := hb_wx.size; (try simp at h_); omega
        have hbx : b < wx.heap.size := by omega
        go_wp2
        refine wp_region_below (by kernel_rfl) (by kernel_rfl) ?_
        repeat first | go_big_quiet_skip | (go_big_quiet_want; go_big_quiet_op; go_big_quiet_on) | (go_big_quiet_want; rename_i K hK; apply quiet_mk; (focus (intro w1 hw1; have hc1 := (bcell hw1).1; have hf1 := (bcell hw1).2; go_simp; first | done | rfl | (fail))); refine hK _ ?_; clear hK K; try simp only [Act.put, List.setIfInBounds_toArray, List.set_cons_zero, List.set_cons_succ])
        refine wpQuiet_nil ?_
        intro wy hb_wy
        have hc_wy := (bcell hb_wy).1
        have hf_wy := (bcell hb_wy).2
        have hz_wy_0 : w.heap.size < wy.heap.size := by have h_ := hb_wy.size; (try simp at h_); omega
        have hz_wy_1 : w.heap.size + 1 < wy.heap.size := by have h_ := hb_wy.size; (try simp at h_); omega
        have hby : b < wy.heap.size := by omega
        go_wp2_with (go_at_call 47; refine (refuse_any _ _ _).mono ?_; rintro e w' ⟨rfl, rfl⟩)
        refine bodyPost_ret (v := .tuple #[.agg #[.int .u64 0, .int .i64 0], .iface 97 (.pointer (some ⟨wy.heap.size, 0, none⟩))]) ?_ rfl (?_ : NoB 0 183 w _ _)
        · simp [results, Try.results23, go_sem, *]
        · have h_ := hz_wy_1
          exact ⟨_, rfl, Err1.new' (by simp) (by omega), (by repeat (first | exact Below.refl _ _ | exact hb_wa | refine Below.on ?_ hb_wa | exact hb_wx | refine Below.on ?_ hb_wx | exact hb_wy | refine Below.on ?_ hb_wy | refine Below.alloc_ ?_ _ | refine Below.drew ?_ | refine below_drewN ?_ | refine Below.setCell ?_ (by first | (simp; done) | (simp; omega)) _))⟩
      · rw [show nextB c n d = some (n + 1, 0) from by simp [nextB, e0, e1, e2]]
        have hm1 : (n == c.mn) = false := beq_eq_false_iff_ne.mpr e2
        have hnlt : n < c.mn := by omega
        go_enter Try.func23, Try.ntmps23
        go_wp2_with fail
        refine (F.out _ (by repeat (first | exact Below.refl _ _ | refine Below.alloc_ ?_ _ | refine Below.drew ?_ | refine below_drewN ?_ | refine Below.setCell ?_ (by first | (simp; done) | (simp; omega)) _))).mono ?_
        rintro e wa ⟨rfl, hb_wa⟩
        have hc_wa := (bcell hb_wa).1
        have hf_wa := (bcell hb_wa).2
        have hz_wa_0 : w.heap.size < wa.heap.size := by have h_ := hb_wa.size; (try simp at h_); omega
        have hz_wa_1 : w.heap.size + 1 < wa.heap.size := by have h_ := hb_wa.size; (try simp at h_); omega
        go_wp2
        go_quiet (fail)
        go_wp2
        go_quiet (fail)
        go_wp2
        exact bodyPost_ret (v := .tuple #[.agg #[.int .u64 (n + 1), .int .i64 0], .nilIface]) (by simp [results, Try.results23, go_sem, *]) rfl ⟨rfl, (by repeat (first | exact Below.refl _ _ | exact hb_wa | refine Below.on ?_ hb_wa | refine Below.alloc_ ?_ _ | refine Below.drew ?_ | refine below_drewN ?_ | refine Below.setCell ?_ (by first | (simp; done) | (simp; omega)) _))⟩
end Go.Proofs.Ytehmbcpgendkjaa
