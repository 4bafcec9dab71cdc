import Derived.Test.YtehmbcpgendkjaaOwn
namespace Go.Proofs.Ytehmbcpgendkjaa
open Go.RowKit
set_option linter.unusedSimpArgs false
set_option linter.unusedVariables false
/-- The document's plain refusal: one link. -/
def RNo (v : Value) (i k : Int) (w : World) (e : Ending) (w' : World) : Prop :=
  ∃ g, e = .returned (.tuple #[v, .agg #[.slice (some ⟨g, 0, none⟩) 1 1, .int .i64 k]]) ∧ LnkAt w' (.slice (some ⟨g, 0, none⟩) 1 1) [(ballotS, i)] ∧ w.heap.size ≤ g ∧ g < w'.heap.size ∧ Below w.heap.size w w'
def RGot (v : Value) (w : World) (e : Ending) (w' : World) : Prop :=
  e = .returned (.tuple #[v, .agg #[.slice none 0 0, .int .i64 0]]) ∧ Below w.heap.size w w'
set_option maxHeartbeats 1600000 in
theorem rrank_bad (b : Nat) (c : Cfg) (n d : Int) (w : World) (hg : RefAt w b c) (h1 : 1 ≤ c.f) (h2 : c.f ≤ 3) (hn0 : 0 ≤ n) (hv : validB c n d = false) :
    Calls Try.prog 32 #[.pointer (some ⟨b, 0, none⟩), .agg #[.int .u64 n, .int .i64 d]] w (RNo (.int .u64 0) 0 181 w) := by
  have V : ∀ w1, Below w.heap.size w w1 → Calls Try.prog 21 #[.pointer (some ⟨b, 0, none⟩), .agg #[.int .u64 n, .int .i64 d]] w1 fun e w' => e = .returned (.bool false) ∧ Below w1.heap.size w1 w' := fun w1 hb => by
    have h := rvalid_at b c n d w1 (hg.below hg.lt hb) h1 h2 hn0
    rw [hv] at h
    exact h
  replace V := Lib.hid V
  clear hg hv
  go_enter Try.func32, Try.ntmps32
  go_wp2_with fail
  refine (V.out _ (by repeat (first | exact Below.refl _ _ | refine Below.alloc_ ?_ _ | refine Below.drew ?_ | refine below_drewN ?_ | refine Below.setCell ?_ (by first | (simp; done) | (simp; omega)) _))).mono ?_
  rintro e wa ⟨rfl, hb_wa⟩
  have hc_wa := (bcell hb_wa).1
  have hf_wa := (bcell hb_wa).2
  have hz_wa_0 : w.heap.size < wa.heap.size := by have h_ := hb_wa.size; (try simp at h_); omega
  have hz_wa_1 : w.heap.size + 1 < wa.heap.size := by have h_ := hb_wa.size; (try simp at h_); omega
  go_wp2_with fail
  refine (rnew_any _ _ _ _).mono ?_
  rintro e wb ⟨rfl, hl, hb_wb⟩
  have hc_wb := (bcell hb_wb).1
  have hf_wb := (bcell hb_wb).2
  have HL := Lib.hid hl
  clear hl
  have hz_wb_0 : w.heap.size < wb.heap.size := by have h_ := hb_wb.size; (try simp at h_); omega
  have hz_wb_1 : w.heap.size + 1 < wb.heap.size := by have h_ := hb_wb.size; (try simp at h_); omega
  have hz_g : wa.heap.size + 1 < wb.heap.size := by have h_ := HL.out; simp [LnkAt] at h_; omega
  go_wp2
  refine bodyPost_ret (v := .tuple #[.int .u64 0, .agg #[.slice (some ⟨wa.heap.size + 1, 0, none⟩) 1 1, .int .i64 181]]) ?_ rfl (?_ : RNo (.int .u64 0) 0 181 w _ _)
  · simp [results, Try.results32, go_sem, *]
  · refine ⟨_, rfl, ?_, by omega, by simp [World.setCell]; omega, (by repeat (first | exact Below.refl _ _ | exact hb_wa | refine Below.on ?_ hb_wa | exact hb_wb | refine Below.on ?_ hb_wb | refine Below.alloc_ ?_ _ | refine Below.drew ?_ | refine below_drewN ?_ | refine Below.setCell ?_ (by first | (simp; done) | (simp; omega)) _))⟩
    exact (HL.out.setCell _ _ (by intro g n c h; simp at h ⊢; omega)).setCell _ _ (by intro g n c h; simp at h ⊢; omega)
set_option maxHeartbeats 1600000 in
theorem rrank_ok (b : Nat) (c : Cfg) (n d : Int) (w : World) (hg : RefAt w b c) (h1 : 1 ≤ c.f) (h2 : c.f ≤ 3) (hn0 : 0 ≤ n) (hm : c.mn ≤ 1099511627776) (hv : validB c n d = true) :
    Calls Try.prog 32 #[.pointer (some ⟨b, 0, none⟩), .agg #[.int .u64 n, .int .i64 d]] w (RGot (.int .u64 (rankB c n d)) w) := by
  have V : ∀ w1, Below w.heap.size w w1 → Calls Try.prog 21 #[.pointer (some ⟨b, 0, none⟩), .agg #[.int .u64 n, .int .i64 d]] w1 fun e w' => e = .returned (.bool true) ∧ Below w1.heap.size w1 w' := fun w1 hb => by
    have h := rvalid_at b c n d w1 (hg.below hg.lt hb) h1 h2 hn0
    rw [hv] at h
    exact h
  have ND : ∀ w1, Below w.heap.size w w1 → Calls Try.prog 51 #[.pointer (some ⟨b, 0, none⟩)] w1 fun e w' => e = .returned (.int .i64 (2 * c.f + 1)) ∧ w1 = w' := fun w1 hb => rnodes_at b c.f w1 (hg.below hg.lt hb).f (by omega) h2
  replace V := Lib.hid V
  replace ND := Lib.hid ND
  have hv' : n = 0 ∧ d = 0 ∨ 1 ≤ n ∧ n ≤ c.mn ∧ 0 ≤ d ∧ d < 2 * c.f + 1 := by simpa [validB] using hv
  clear hg hv
  by_cases e0 : n = 0
  · subst e0
    rw [show rankB c 0 d = 0 from by simp [rankB]]
    clear hv'
    go_enter Try.func32, Try.ntmps32
    go_wp2_with fail
    refine (V.out _ (by repeat (first | exact Below.refl _ _ | refine Below.alloc_ ?_ _ | refine Below.drew ?_ | refine below_drewN ?_ | refine Below.setCell ?_ (by first | (simp; done) | (simp; omega)) _))).mono ?_
    rintro e wa ⟨rfl, hb_wa⟩
    have hc_wa := (bcell hb_wa).1
    have hf_wa := (bcell hb_wa).2
    have hz_wa_0 : w.heap.size < wa.heap.size := by have h_ := hb_wa.size; (try simp at h_); omega
    have hz_wa_1 : w.heap.size + 1 < wa.heap.size := by have h_ := hb_wa.size; (try simp at h_); omega
    go_wp2_with (go_at_call 50; refine (rnone_any _).mono ?_; rintro e w' ⟨rfl, rfl⟩)
    exact bodyPost_ret (v := .tuple #[.int .u64 0, .agg #[.slice none 0 0, .int .i64 0]]) (by simp [results, Try.results32, go_sem, *]) rfl ⟨rfl, (by repeat (first | exact Below.refl _ _ | exact hb_wa | refine Below.on ?_ hb_wa | refine Below.alloc_ ?_ _ | refine Below.drew ?_ | refine below_drewN ?_ | refine Below.setCell ?_ (by first | (simp; done) | (simp; omega)) _))⟩
  · have hnb : (n == 0) = false := beq_eq_false_iff_ne.mpr e0
    have hd0 : 0 ≤ d := by omega
    have hd1 : d < 2 * c.f + 1 := by omega
    have hnm : n ≤ c.mn := by omega
    have hn1 : 1 ≤ n := by omega
    have hp0 : 0 ≤ (n - 1) * (2 * c.f + 1) := Int.mul_nonneg (by omega) (by omega)
    have hp1 : (n - 1) * (2 * c.f + 1) ≤ 1099511627776 * 7 := Int.mul_le_mul (by omega) (by omega) (by omega) (by omega)
    have e1 : IntKind.u64.wrap (n - 1) = n - 1 := by simp only [IntKind.wrap, IntKind.signed, IntKind.bits]; simp; omega
    have e2 : IntKind.u64.wrap (2 * c.f + 1) = 2 * c.f + 1 := by simp only [IntKind.wrap, IntKind.signed, IntKind.bits]; simp; omega
    have e3 : IntKind.u64.wrap d = d := by simp only [IntKind.wrap, IntKind.signed, IntKind.bits]; simp; omega
    have e4 : IntKind.u64.wrap ((n - 1) * (2 * c.f + 1)) = (n - 1) * (2 * c.f + 1) := by simp only [IntKind.wrap, IntKind.signed, IntKind.bits]; simp; omega
    have e5 : IntKind.u64.wrap ((n - 1) * (2 * c.f + 1) + d) = (n - 1) * (2 * c.f + 1) + d := by simp only [IntKind.wrap, IntKind.signed, IntKind.bits]; simp; omega
    have e6 : IntKind.u64.wrap ((n - 1) * (2 * c.f + 1) + d + 1) = (n - 1) * (2 * c.f + 1) + d + 1 := by simp only [IntKind.wrap, IntKind.signed, IntKind.bits]; simp; omega
    rw [show rankB c n d = (n - 1) * (2 * c.f + 1) + d + 1 from by simp [rankB, e0]]
    clear hv'
    go_enter Try.func32, Try.ntmps32
    go_wp2_with fail
    refine (V.out _ (by repeat (first | exact Below.refl _ _ | refine Below.alloc_ ?_ _ | refine Below.drew ?_ | refine below_drewN ?_ | refine Below.setCell ?_ (by first | (simp; done) | (simp; omega)) _))).mono ?_
    rintro e wa ⟨rfl, hb_wa⟩
    have hc_wa := (bcell hb_wa).1
    have hf_wa := (bcell hb_wa).2
    have hz_wa_0 : w.heap.size < wa.heap.size := by have h_ := hb_wa.size; (try simp at h_); omega
    have hz_wa_1 : w.heap.size + 1 < wa.heap.size := by have h_ := hb_wa.size; (try simp at h_); omega
    go_wp2
    go_region_with (first | (go_at_call 50; refine (rnone_any _).mono ?_; rintro e w' ⟨rfl, rfl⟩) | (go_at_call 51; refine (ND.out _ (by repeat (first | exact Below.refl _ _ | exact hb_wa | refine Below.on ?_ hb_wa | refine Below.alloc_ ?_ _ | refine Below.drew ?_ | refine below_drewN ?_ | refine Below.setCell ?_ (by first | (simp; done) | (simp; omega)) _))).mono ?_; rintro e w' ⟨rfl, rfl⟩))
    all_goals go_wp2
    all_goals exact bodyPost_ret (v := .tuple #[.int .u64 ((n - 1) * (2 * c.f + 1) + d + 1), .agg #[.slice none 0 0, .int .i64 0]]) (by simp [results, Try.results32, go_sem, *]) rfl ⟨rfl, (by repeat (first | exact Below.refl _ _ | exact hb_wa | refine Below.on ?_ hb_wa | refine Below.alloc_ ?_ _ | refine Below.drew ?_ | refine below_drewN ?_ | refine Below.setCell ?_ (by first | (simp; done) | (simp; omega)) _))⟩
end Go.Proofs.Ytehmbcpgendkjaa
