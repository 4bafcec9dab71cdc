import Derived.Test.YtehmbcpgendkjaaRefSteps
import Derived.Test.YtehmbcpgendkjaaRanksLaw
namespace Go.Proofs.Ytehmbcpgendkjaa
open Go.RowKit
set_option linter.unusedSimpArgs false
set_option linter.unusedVariables false
/-- What the document's Ranked answers. -/
def RRanked (c : Cfg) (n : Int) (w : World) (e : Ending) (w' : World) : Prop :=
  match rankedB c n with
  | some (x, y) => RGot (.agg #[.int .u64 x, .int .i64 y]) w e w'
  | none => RNo (.agg #[.int .u64 0, .int .i64 0]) 0 184 w e w'
set_option maxHeartbeats 1600000 in
theorem rranked_ok (b : Nat) (c : Cfg) (n : Int) (w : World) (hg : RefAt w b c) (h1 : 1 ≤ c.f) (h2 : c.f ≤ 3) (hn0 : 0 ≤ n) (hm0 : 1 ≤ c.mn) (hm : c.mn ≤ 1099511627776) :
    Calls Try.prog 33 #[.pointer (some ⟨b, 0, none⟩), .int .u64 n] w (RRanked c n w) := by
  have ND : ∀ w1, Below w.heap.size w w1 → Calls Try.prog 51 #[.pointer (some ⟨b, 0, none⟩)] w1 fun e w' => e = .returned (.int .i64 (2 * c.f + 1)) ∧ w1 = w' := fun w1 hb => rnodes_at b c.f w1 (hg.below hg.lt hb).f (by omega) h2
  replace ND := Lib.hid ND
  have q8 := hg.mn
  have hlt := hg.lt
  have hlt1 : b < w.heap.size + 1 := by omega
  have hlt2 : b < w.heap.size + 1 + 1 := by omega
  have hs0 : w.heap.size < w.heap.size + 1 + 1 := by omega
  clear hg
  have hp0 : 0 ≤ c.mn * (2 * c.f + 1) := Int.mul_nonneg (by omega) (by omega)
  have hp1 : c.mn * (2 * c.f + 1) ≤ 1099511627776 * 7 := Int.mul_le_mul (by omega) (by omega) (by omega) (by omega)
  have e2 : IntKind.u64.wrap (2 * c.f + 1) = 2 * c.f + 1 := by simp only [IntKind.wrap, IntKind.signed, IntKind.bits]; simp; omega
  have e4 : IntKind.u64.wrap (c.mn * (2 * c.f + 1)) = c.mn * (2 * c.f + 1) := by simp only [IntKind.wrap, IntKind.signed, IntKind.bits]; simp; omega
  unfold RRanked
  by_cases c0 : c.mn * (2 * c.f + 1) < n
  · rw [show rankedB c n = none from by simp [rankedB, c0]]
    have hd : decide (n > c.mn * (2 * c.f + 1)) = true := decide_eq_true c0
    go_enter Try.func33, Try.ntmps33
    go_wp2_with fail
    refine (ND.out _ (by repeat (first | exact Below.refl _ _ | refine Below.alloc_ ?_ _ | refine Below.drew ?_ | refine below_drewN ?_ | refine Below.setCell ?_ (by first | (simp; done) | (simp; omega)) _))).mono ?_
    rintro e w1 ⟨rfl, rfl⟩
    go_wp2_with fail
    refine (rnew_any _ _ _ _).mono ?_
    rintro e wb ⟨rfl, hl, hb_wb⟩
    have hc_wb := (bcell hb_wb).1
    have hf_wb := (bcell hb_wb).2
    have HL := Lib.hid hl
    clear hl
    have hz_wb_0 : w.heap.size < wb.heap.size := by have h_ := hb_wb.size; (try simp at h_); omega
    have hz_wb_1 : w.heap.size + 1 < wb.heap.size := by have h_ := hb_wb.size; (try simp at h_); omega
    have hz_g : w.heap.size + 1 + 1 + 1 < wb.heap.size := by have h_ := HL.out; simp [LnkAt] at h_; omega
    go_wp2
    refine bodyPost_ret (v := .tuple #[.agg #[.int .u64 0, .int .i64 0], .agg #[.slice (some ⟨w.heap.size + 1 + 1 + 1, 0, none⟩) 1 1, .int .i64 184]]) ?_ rfl (?_ : RNo (.agg #[.int .u64 0, .int .i64 0]) 0 184 w _ _)
    · simp [results, Try.results33, go_sem, *]
    · refine ⟨_, rfl, ?_, by omega, by simp [World.setCell]; omega, (by repeat (first | exact Below.refl _ _ | exact hb_wb | refine Below.on ?_ hb_wb | refine Below.alloc_ ?_ _ | refine Below.drew ?_ | refine below_drewN ?_ | refine Below.setCell ?_ (by first | (simp; done) | (simp; omega)) _))⟩
      have h_ := HL.out
      simp only [World.size_alloc] at h_
      exact (((h_.setCell _ _ (by intro g n c h; simp at h ⊢; omega)).setCell _ _ (by intro g n c h; simp at h ⊢; omega)).setCell _ _ (by intro g n c h; simp at h ⊢; omega)).setCell _ _ (by intro g n c h; simp at h ⊢; omega)
  · have hd : decide (n > c.mn * (2 * c.f + 1)) = false := decide_eq_false c0
    by_cases e0 : n = 0
    · subst e0
      rw [show rankedB c 0 = some (0, 0) from by simp [rankedB]; omega]
      go_enter Try.func33, Try.ntmps33
      go_wp2_with fail
      refine (ND.out _ (by repeat (first | exact Below.refl _ _ | refine Below.alloc_ ?_ _ | refine Below.drew ?_ | refine below_drewN ?_ | refine Below.setCell ?_ (by first | (simp; done) | (simp; omega)) _))).mono ?_
      rintro e w1 ⟨rfl, rfl⟩
      go_wp2_with (go_at_call 50; refine (rnone_any _).mono ?_; rintro e w' ⟨rfl, rfl⟩)
      exact bodyPost_ret (v := .tuple #[.agg #[.int .u64 0, .int .i64 0], .agg #[.slice none 0 0, .int .i64 0]]) (by simp [results, Try.results33, go_sem, *]) rfl ⟨rfl, (by repeat (first | exact Below.refl _ _ | refine Below.alloc_ ?_ _ | refine Below.drew ?_ | refine below_drewN ?_ | refine Below.setCell ?_ (by first | (simp; done) | (simp; omega)) _))⟩
    · have hnb : (n == 0) = false := beq_eq_false_iff_ne.mpr e0
      have hk : (2 * c.f + 1 == 0) = false := beq_eq_false_iff_ne.mpr (by omega)
      have hk' : ¬ 2 * c.f + 1 = 0 := by omega
      have e1 : IntKind.u64.wrap (n - 1) = n - 1 := by simp only [IntKind.wrap, IntKind.signed, IntKind.bits]; simp; omega
      have d0 : (n - 1).tdiv (2 * c.f + 1) = (n - 1) / (2 * c.f + 1) := Int.tdiv_eq_ediv_of_nonneg (by omega)
      have d1 : (n - 1).tmod (2 * c.f + 1) = (n - 1) % (2 * c.f + 1) := Int.tmod_eq_emod_of_nonneg (by omega)
      have d2 : 0 ≤ (n - 1) / (2 * c.f + 1) := Int.ediv_nonneg (by omega) (by omega)
      have d3 : (n - 1) / (2 * c.f + 1) ≤ n - 1 := Int.ediv_le_self _ (by omega)
      have d4 : 0 ≤ (n - 1) % (2 * c.f + 1) := Int.emod_nonneg _ (by omega)
      have d5 : (n - 1) % (2 * c.f + 1) < 2 * c.f + 1 := Int.emod_lt_of_pos _ (by omega)
      have e3 : IntKind.u64.wrap ((n - 1) / (2 * c.f + 1)) = (n - 1) / (2 * c.f + 1) := by simp only [IntKind.wrap, IntKind.signed, IntKind.bits]; simp; omega
      have e5 : IntKind.u64.wrap ((n - 1) / (2 * c.f + 1) + 1) = (n - 1) / (2 * c.f + 1) + 1 := by simp only [IntKind.wrap, IntKind.signed, IntKind.bits]; simp; omega
      have e6 : IntKind.u64.wrap ((n - 1) % (2 * c.f + 1)) = (n - 1) % (2 * c.f + 1) := by simp only [IntKind.wrap, IntKind.signed, IntKind.bits]; simp; omega
      have e7 : IntKind.i64.wrap ((n - 1) % (2 * c.f + 1)) = (n - 1) % (2 * c.f + 1) := by simp only [IntKind.wrap, IntKind.signed, IntKind.bits]; simp; omega
      rw [show rankedB c n = some ((n - 1) / (2 * c.f + 1) + 1, (n - 1) % (2 * c.f + 1)) from by simp [rankedB, c0, e0]]
      go_enter Try.func33, Try.ntmps33
      go_wp2_with fail
      refine (ND.out _ (by repeat (first | exact Below.refl _ _ | refine Below.alloc_ ?_ _ | refine Below.drew ?_ | refine below_drewN ?_ | refine Below.setCell ?_ (by first | (simp; done) | (simp; omega)) _))).mono ?_
      rintro e w1 ⟨rfl, rfl⟩
      go_wp2
      go_region_with (go_at_call 50; refine (rnone_any _).mono ?_; rintro e w' ⟨rfl, rfl⟩)
      all_goals go_wp2
      all_goals exact bodyPost_ret (v := .tuple #[.agg #[.int .u64 ((n - 1) / (2 * c.f + 1) + 1), .int .i64 ((n - 1) % (2 * c.f + 1))], .agg #[.slice none 0 0, .int .i64 0]]) (by simp [results, Try.results33, go_sem, *]) rfl ⟨rfl, (by repeat (first | exact Below.refl _ _ | refine Below.alloc_ ?_ _ | refine Below.drew ?_ | refine below_drewN ?_ | refine Below.setCell ?_ (by first | (simp; done) | (simp; omega)) _))⟩
theorem ranked_succ {c : Cfg} {n d : Int} (h1 : 1 ≤ c.f) (h2 : c.f ≤ 3) (hm : 1 ≤ c.mn) (h : validB c n d = true) : rankedB c (rankB c n d + 1) = nextB c n d := by
  rcases hx : nextB c n d with _ | ⟨x, y⟩
  · rw [next_none h1 h2 h hx]
    unfold rankedB
    rw [if_pos (by omega)]
  · obtain ⟨v, e, _⟩ := next_some h1 h2 hm h hx
    rw [← e, ranked_rank h1 h2 hm v]
theorem LnkAt.drew_ {w : World} {s : Value} {l : List (ByteArray × Int)} (h : LnkAt w s l) : LnkAt w.drew s l := h.below (Nat.le_refl _) (Below.refl _ _).drew
theorem LnkAt.alloc_ {w : World} {o : Obj} {s : Value} {l : List (ByteArray × Int)} (h : LnkAt w s l) : LnkAt (w.alloc o) s l := h.below (Nat.le_refl _) (Below.alloc_ (Below.refl _ _) _)
theorem LnkAt.drewN_ {w : World} {n : Nat} {s : Value} {l : List (ByteArray × Int)} (h : LnkAt w s l) : LnkAt (w.drewN n) s l := h.below (Nat.le_refl _) (below_drewN (Below.refl _ _))
set_option maxHeartbeats 16000000 in
theorem rnext_bad (b : Nat) (c : Cfg) (n d : Int) (w : World) (hg : RefAt w b c) (h1 : 1 ≤ c.f) (h2 : c.f ≤ 3) (hn0 : 0 ≤ n) (hv : validB c n d = false) :
    Calls Try.prog 30 #[.pointer (some ⟨b, 0, none⟩), .agg #[.int .u64 n, .int .i64 d]] w (RNo (.agg #[.int .u64 0, .int .i64 0]) 0 181 w) := by
  have R := fun w1 hb => rrank_bad b c n d w1 (hg.below (w' := w1) hg.lt hb) h1 h2 hn0 hv
  replace R := Lib.hid R
  have hs0 : w.heap.size < w.heap.size + 1 + 1 := by omega
  have hs1 : w.heap.size < w.heap.size + 1 + 1 + 1 := by omega
  have hs2 : w.heap.size + 1 < w.heap.size + 1 + 1 + 1 := by omega
  clear hg hv
  go_enter Try.func30, Try.ntmps30
  go_wp2_with fail
  refine (R.out _ (by repeat (first | exact Below.refl _ _ | refine Below.alloc_ ?_ _ | refine Below.drew ?_ | refine below_drewN ?_ | refine Below.setCell ?_ (by first | (simp; done) | (simp; omega)) _))).mono ?_
  rintro e wa ⟨g, rfl, hl, hge, hlt, hb_wa⟩
  have HL := Lib.hid hl
  have hc_wa := (bcell hb_wa).1
  have hf_wa := (bcell hb_wa).2
  clear hl
  have hz_wa_0 : w.heap.size < wa.heap.size := by have h_ := hb_wa.size; (try simp at h_); omega
  have hz_wa_1 : w.heap.size + 1 < wa.heap.size := by have h_ := hb_wa.size; (try simp at h_); omega
  have hz_wa_2 : w.heap.size + 1 + 1 < wa.heap.size := by have h_ := hb_wa.size; (try simp at h_); omega
  have hge' : w.heap.size + 3 ≤ g := by simp at hge; omega
  go_wp2
  clear R
  go_region
  all_goals go_wp2
  all_goals refine bodyPost_ret (v := .tuple #[.agg #[.int .u64 0, .int .i64 0], .agg #[.slice (some ⟨g, 0, none⟩) 1 1, .int .i64 181]]) ?_ rfl (?_ : RNo (.agg #[.int .u64 0, .int .i64 0]) 0 181 w _ _)
  all_goals first | (focus (simp [results, Try.results30, go_sem, *]; done)) | skip
  all_goals refine ⟨_, rfl, ?_, by omega, by simp [World.setCell]; omega, (by repeat (first | with_reducible refine Below.drew ?_ | with_reducible refine below_drewN ?_ | with_reducible refine Below.alloc_ ?_ _ | with_reducible refine Below.setCell ?_ (by first | (simp; done) | (simp; omega)) _ | with_reducible exact Below.refl _ _ | with_reducible exact hb_wa | with_reducible refine Below.on ?_ hb_wa ))⟩
  all_goals (repeat (first | with_reducible refine LnkAt.drewN_ ?_ | with_reducible refine LnkAt.drew_ ?_ | with_reducible refine LnkAt.alloc_ ?_ | with_reducible refine LnkAt.setCell ?_ _ _ (by intro g n c h; simp at h ⊢; omega) | with_reducible exact HL.out))
set_option maxHeartbeats 16000000 in
theorem rnext_ok (b : Nat) (c : Cfg) (n d : Int) (w : World) (hg : RefAt w b c) (h1 : 1 ≤ c.f) (h2 : c.f ≤ 3) (hn0 : 0 ≤ n) (hm0 : 1 ≤ c.mn) (hm : c.mn ≤ 1099511627776) (hv : validB c n d = true) :
    Calls Try.prog 30 #[.pointer (some ⟨b, 0, none⟩), .agg #[.int .u64 n, .int .i64 d]] w fun e w' => match nextB c n d with | some (x, y) => RGot (.agg #[.int .u64 x, .int .i64 y]) w e w' | none => RNo (.agg #[.int .u64 0, .int .i64 0]) 0 183 w e w' := by
  have R := fun w1 hb => rrank_ok b c n d w1 (hg.below (w' := w1) hg.lt hb) h1 h2 hn0 hm hv
  have rr := rank_range h1 h2 hm hv
  have K := fun w1 hb => rranked_ok b c (rankB c n d + 1) w1 (hg.below (w' := w1) hg.lt hb) h1 h2 (by omega) hm0 hm
  have hs := ranked_succ h1 h2 hm0 hv
  unfold RRanked at K
  rw [hs] at K
  clear hs hg hv
  generalize rankB c n d = m at *
  have ew : IntKind.u64.wrap (m + 1) = m + 1 := by simp only [IntKind.wrap, IntKind.signed, IntKind.bits]; simp; omega
  replace R := Lib.hid R
  have hs0 : w.heap.size < w.heap.size + 1 + 1 := by omega
  have hs1 : w.heap.size < w.heap.size + 1 + 1 + 1 := by omega
  have hs2 : w.heap.size + 1 < w.heap.size + 1 + 1 + 1 := by omega
  revert K
  rcases nextB c n d with _ | ⟨x, y⟩ <;> intro K
  · replace K := Lib.hid K
    go_enter Try.func30, Try.ntmps30
    go_wp2_with fail
    refine (R.out _ (by repeat (first | exact Below.refl _ _ | refine Below.alloc_ ?_ _ | refine Below.drew ?_ | refine below_drewN ?_ | refine Below.setCell ?_ (by first | (simp; done) | (simp; omega)) _))).mono ?_
    rintro e wa ⟨rfl, hb_wa⟩
    have hc_wa := (bcell hb_wa).1
    have hf_wa := (bcell hb_wa).2
    have hz_wa_0 : w.heap.size < wa.heap.size := by have h_ := hb_wa.size; (try simp at h_); omega
    have hz_wa_1 : w.heap.size + 1 < wa.heap.size := by have h_ := hb_wa.size; (try simp at h_); omega
    have hz_wa_2 : w.heap.size + 1 + 1 < wa.heap.size := by have h_ := hb_wa.size; (try simp at h_); omega
    go_wp2_with fail
    refine (K.out _ (by repeat (first | exact Below.refl _ _ | exact hb_wa | refine Below.on ?_ hb_wa | refine Below.alloc_ ?_ _ | refine Below.drew ?_ | refine below_drewN ?_ | refine Below.setCell ?_ (by first | (simp; done) | (simp; omega)) _))).mono ?_
    rintro e wb ⟨g, rfl, hl, hge, hlt, hb_wb⟩
    have hc_wb := (bcell hb_wb).1
    have hf_wb := (bcell hb_wb).2
    clear hl hge hlt
    have hz_wb_0 : w.heap.size < wb.heap.size := by have h_ := hb_wb.size; (try simp at h_); omega
    have hz_wb_1 : w.heap.size + 1 < wb.heap.size := by have h_ := hb_wb.size; (try simp at h_); omega
    have hz_wb_2 : w.heap.size + 1 + 1 < wb.heap.size := by have h_ := hb_wb.size; (try simp at h_); omega
    have hz_b : wa.heap.size < wb.heap.size := by have h_ := hb_wb.size; (try simp at h_); omega
    go_wp2_with fail
    refine (rnew_any _ _ _ _).mono ?_
    rintro e wc ⟨rfl, hl, hb_wc⟩
    have hc_wc := (bcell hb_wc).1
    have hf_wc := (bcell hb_wc).2
    have HL := Lib.hid hl
    have hz_wc_0 : w.heap.size < wc.heap.size := by have h_ := hb_wc.size; (try simp at h_); omega
    have hz_wc_1 : w.heap.size + 1 < wc.heap.size := by have h_ := hb_wc.size; (try simp at h_); omega
    have hz_wc_2 : w.heap.size + 1 + 1 < wc.heap.size := by have h_ := hb_wc.size; (try simp at h_); omega
    have hz_c : wb.heap.size + 1 + 1 < wc.heap.size := by simp [LnkAt] at hl; omega
    clear hl
    go_wp2
    refine bodyPost_ret (v := .tuple #[.agg #[.int .u64 0, .int .i64 0], .agg #[.slice (some ⟨wb.heap.size + 1 + 1, 0, none⟩) 1 1, .int .i64 183]]) ?_ rfl (?_ : RNo (.agg #[.int .u64 0, .int .i64 0]) 0 183 w _ _)
    · simp [results, Try.results30, go_sem, *]
    · refine ⟨_, rfl, ?_, by omega, by simp [World.setCell]; omega, (by repeat (first | with_reducible refine Below.drew ?_ | with_reducible refine below_drewN ?_ | with_reducible refine Below.alloc_ ?_ _ | with_reducible refine Below.setCell ?_ (by first | (simp; done) | (simp; omega)) _ | with_reducible exact Below.refl _ _ | with_reducible exact hb_wa | with_reducible refine Below.on ?_ hb_wa | with_reducible exact hb_wb | with_reducible refine Below.on ?_ hb_wb | with_reducible exact hb_wc | with_reducible refine Below.on ?_ hb_wc ))⟩
      have h_ := HL.out
      simp at h_
      exact (((h_.setCell _ _ (by intro g n c h; simp at h ⊢; omega)).setCell _ _ (by intro g n c h; simp at h ⊢; omega)).setCell _ _ (by intro g n c h; simp at h ⊢; omega)).setCell _ _ (by intro g n c h; simp at h ⊢; omega)
  · replace K := Lib.hid K
    go_enter Try.func30, Try.ntmps30
    go_wp2_with fail
    refine (R.out _ (by repeat (first | exact Below.refl _ _ | refine Below.alloc_ ?_ _ | refine Below.drew ?_ | refine below_drewN ?_ | refine Below.setCell ?_ (by first | (simp; done) | (simp; omega)) _))).mono ?_
    rintro e wa ⟨rfl, hb_wa⟩
    have hc_wa := (bcell hb_wa).1
    have hf_wa := (bcell hb_wa).2
    have hz_wa_0 : w.heap.size < wa.heap.size := by have h_ := hb_wa.size; (try simp at h_); omega
    have hz_wa_1 : w.heap.size + 1 < wa.heap.size := by have h_ := hb_wa.size; (try simp at h_); omega
    have hz_wa_2 : w.heap.size + 1 + 1 < wa.heap.size := by have h_ := hb_wa.size; (try simp at h_); omega
    go_wp2_with fail
    refine (K.out _ (by repeat (first | exact Below.refl _ _ | exact hb_wa | refine Below.on ?_ hb_wa | refine Below.alloc_ ?_ _ | refine Below.drew ?_ | refine below_drewN ?_ | refine Below.setCell ?_ (by first | (simp; done) | (simp; omega)) _))).mono ?_
    rintro e wb ⟨rfl, hb_wb⟩
    have hc_wb := (bcell hb_wb).1
    have hf_wb := (bcell hb_wb).2
    have hz_wb_0 : w.heap.size < wb.heap.size := by have h_ := hb_wb.size; (try simp at h_); omega
    have hz_wb_1 : w.heap.size + 1 < wb.heap.size := by have h_ := hb_wb.size; (try simp at h_); omega
    have hz_wb_2 : w.heap.size + 1 + 1 < wb.heap.size := by have h_ := hb_wb.size; (try simp at h_); omega
    have hz_b : wa.heap.size < wb.heap.size := by have h_ := hb_wb.size; (try simp at h_); omega
    go_wp2
    go_region_with (go_at_call 50; refine (rnone_any _).mono ?_; rintro e w' ⟨rfl, rfl⟩)
    all_goals go_wp2
    all_goals exact bodyPost_ret (v := .tuple #[.agg #[.int .u64 x, .int .i64 y], .agg #[.slice none 0 0, .int .i64 0]]) (by simp [results, Try.results30, go_sem, *]) rfl ⟨rfl, (by repeat (first | with_reducible refine Below.drew ?_ | with_reducible refine below_drewN ?_ | with_reducible refine Below.alloc_ ?_ _ | with_reducible refine Below.setCell ?_ (by first | (simp; done) | (simp; omega)) _ | with_reducible exact Below.refl _ _ | with_reducible exact hb_wa | with_reducible refine Below.on ?_ hb_wa | with_reducible exact hb_wb | with_reducible refine Below.on ?_ hb_wb ))⟩
end Go.Proofs.Ytehmbcpgendkjaa
