import Derived.Test.YtehmbcpgendkjaaRefNext
import Derived.Test.YtehmbcpgendkjaaBetweenLaw
import Derived.Deep.LoopGhost
namespace Go.Proofs.Ytehmbcpgendkjaa
open Go.RowKit
set_option linter.unusedSimpArgs false
set_option linter.unusedVariables false
/-- One step of the document's search. -/
theorem own_step {c : Cfg} {n d q : Int} (hm : 1 ≤ c.mn) (hq : 0 ≤ q ∧ q < 2 * c.f + 1) (h : validB c n d = true) :
    ownB c n d q = match nextB c n d with | none => none | some (x, y) => if y = q then some (x, y) else ownB c x y q := by
  rw [validB_iff] at h
  obtain ⟨m, e1, e2⟩ := @ownB_cases c n d q
  rw [e1]
  rw [lessB_true, lessB_false] at e2
  rcases hx : nextB c n d with _ | ⟨x, y⟩
  · simp only
    unfold nextB at hx
    split at hx
    · simp at hx
    · split at hx
      · simp at hx
      · split at hx
        · rw [if_pos (by omega)]
        · simp at hx
  · simp only
    obtain ⟨m', e1', e2'⟩ := @ownB_cases c x y q
    rw [e1']
    rw [lessB_true, lessB_false] at e2'
    have hxy : n = 0 ∧ x = 1 ∧ y = 0 ∨ n ≠ 0 ∧ d < 2 * c.f ∧ x = n ∧ y = d + 1 ∨ n ≠ 0 ∧ ¬ d < 2 * c.f ∧ n ≠ c.mn ∧ x = n + 1 ∧ y = 0 := by
      unfold nextB at hx
      split at hx
      · simp only [Option.some.injEq, Prod.mk.injEq] at hx; omega
      · split at hx
        · simp only [Option.some.injEq, Prod.mk.injEq] at hx; omega
        · split at hx
          · simp at hx
          · simp only [Option.some.injEq, Prod.mk.injEq] at hx; omega
    by_cases hy : y = q
    · rw [if_pos hy, if_neg (by omega)]
      simp only [Option.some.injEq, Prod.mk.injEq]
      omega
    · rw [if_neg hy]
      have : m = m' := by omega
      rw [this]
set_option maxHeartbeats 1600000 in
theorem rown_bad (b : Nat) (c : Cfg) (n d q : Int) (w : World) (hg : RefAt w b c) (h1 : 1 ≤ c.f) (h2 : c.f ≤ 3) (hn0 : 0 ≤ n) (hv : validB c n d = false) :
    Calls Try.prog 31 #[.pointer (some ⟨b, 0, none⟩), .agg #[.int .u64 n, .int .i64 d], .int .i64 q] w (RNo (.agg #[.int .u64 0, .int .i64 0]) 0 181 w) := by
  have V : ∀ w1, Below w.heap.size w w1 → Calls Try.prog 21 #[.pointer (some ⟨b, 0, none⟩), .agg #[.int .u64 n, .int .i64 d]] w1 fun e w' => e = .returned (.bool false) ∧ Below w1.heap.size w1 w' := fun w1 hb => by
    have h := rvalid_at b c n d w1 (hg.below hg.lt hb) h1 h2 hn0
    rw [hv] at h
    exact h
  replace V := Lib.hid V
  clear hg hv
  go_enter Try.func31, Try.ntmps31
  go_wp2_with fail
  refine (V.out _ (by repeat (first | exact Below.refl _ _ | refine Below.alloc_ ?_ _ | refine Below.drew ?_ | refine below_drewN ?_ | refine Below.setCell ?_ (by first | (simp; done) | (simp; omega)) _))).mono ?_
  rintro e wa ⟨rfl, hb_wa⟩
  have hc_wa := (bcell hb_wa).1
  have hf_wa := (bcell hb_wa).2
  have hz_wa_0 : w.heap.size < wa.heap.size := by have h_ := hb_wa.size; (try simp at h_); omega
  have hz_wa_1 : w.heap.size + 1 < wa.heap.size := by have h_ := hb_wa.size; (try simp at h_); omega
  have hz_wa_2 : w.heap.size + 1 + 1 < wa.heap.size := by have h_ := hb_wa.size; (try simp at h_); omega
  go_wp2_with fail
  refine (rnew_any _ _ _ _).mono ?_
  rintro e wb ⟨rfl, hl, hb_wb⟩
  have hc_wb := (bcell hb_wb).1
  have hf_wb := (bcell hb_wb).2
  have HL := Lib.hid hl
  clear hl
  have hz_wb_0 : w.heap.size < wb.heap.size := by have h_ := hb_wb.size; (try simp at h_); omega
  have hz_wb_1 : w.heap.size + 1 < wb.heap.size := by have h_ := hb_wb.size; (try simp at h_); omega
  have hz_wb_2 : w.heap.size + 1 + 1 < wb.heap.size := by have h_ := hb_wb.size; (try simp at h_); omega
  have hz_g : wa.heap.size + 1 < wb.heap.size := by have h_ := HL.out; simp [LnkAt] at h_; omega
  go_wp2
  refine bodyPost_ret (v := .tuple #[.agg #[.int .u64 0, .int .i64 0], .agg #[.slice (some ⟨wa.heap.size + 1, 0, none⟩) 1 1, .int .i64 181]]) ?_ rfl (?_ : RNo (.agg #[.int .u64 0, .int .i64 0]) 0 181 w _ _)
  · simp [results, Try.results31, go_sem, *]
  · refine ⟨_, rfl, ?_, by omega, by simp [World.setCell]; omega, (by repeat (first | exact Below.refl _ _ | exact hb_wa | refine Below.on ?_ hb_wa | exact hb_wb | refine Below.on ?_ hb_wb | refine Below.alloc_ ?_ _ | refine Below.drew ?_ | refine below_drewN ?_ | refine Below.setCell ?_ (by first | (simp; done) | (simp; omega)) _))⟩
    exact (((HL.out.setCell _ _ (by intro g n c h; simp at h ⊢; omega)).setCell _ _ (by intro g n c h; simp at h ⊢; omega)).setCell _ _ (by intro g n c h; simp at h ⊢; omega)).setCell _ _ (by intro g n c h; simp at h ⊢; omega)
set_option maxHeartbeats 1600000 in
theorem rown_node (b : Nat) (c : Cfg) (n d q : Int) (w : World) (hg : RefAt w b c) (h1 : 1 ≤ c.f) (h2 : c.f ≤ 3) (hn0 : 0 ≤ n) (hv : validB c n d = true) (hq : decide (0 ≤ q ∧ q < 2 * c.f + 1) = false) :
    Calls Try.prog 31 #[.pointer (some ⟨b, 0, none⟩), .agg #[.int .u64 n, .int .i64 d], .int .i64 q] w (RNo (.agg #[.int .u64 0, .int .i64 0]) 1 182 w) := by
  have V : ∀ w1, Below w.heap.size w w1 → Calls Try.prog 21 #[.pointer (some ⟨b, 0, none⟩), .agg #[.int .u64 n, .int .i64 d]] w1 fun e w' => e = .returned (.bool true) ∧ Below w1.heap.size w1 w' := fun w1 hb => by
    have h := rvalid_at b c n d w1 (hg.below hg.lt hb) h1 h2 hn0
    rw [hv] at h
    exact h
  have NB : ∀ w1, Below w.heap.size w w1 → Calls Try.prog 44 #[.pointer (some ⟨b, 0, none⟩), .int .i64 q] w1 fun e w' => e = .returned (.bool false) ∧ Below w1.heap.size w1 w' := fun w1 hb => by
    have h := rnode_at b c.f q w1 (hg.below hg.lt hb).f (by omega) h2
    rw [hq] at h
    exact sameB h
  replace V := Lib.hid V
  replace NB := Lib.hid NB
  clear hg hv
  go_enter Try.func31, Try.ntmps31
  go_wp2_with fail
  refine (V.out _ (by repeat (first | exact Below.refl _ _ | refine Below.alloc_ ?_ _ | refine Below.drew ?_ | refine below_drewN ?_ | refine Below.setCell ?_ (by first | (simp; done) | (simp; omega)) _))).mono ?_
  rintro e wa ⟨rfl, hb_wa⟩
  have hc_wa := (bcell hb_wa).1
  have hf_wa := (bcell hb_wa).2
  have hz_wa_0 : w.heap.size < wa.heap.size := by have h_ := hb_wa.size; (try simp at h_); omega
  have hz_wa_1 : w.heap.size + 1 < wa.heap.size := by have h_ := hb_wa.size; (try simp at h_); omega
  have hz_wa_2 : w.heap.size + 1 + 1 < wa.heap.size := by have h_ := hb_wa.size; (try simp at h_); omega
  go_wp2_with fail
  refine (NB.out _ (by repeat (first | exact Below.refl _ _ | exact hb_wa | refine Below.on ?_ hb_wa | refine Below.alloc_ ?_ _ | refine Below.drew ?_ | refine below_drewN ?_ | refine Below.setCell ?_ (by first | (simp; done) | (simp; omega)) _))).mono ?_
  rintro e wx ⟨rfl, hb_wx⟩
  have hc_wx := (bcell hb_wx).1
  have hf_wx := (bcell hb_wx).2
  have hz_wx_0 : w.heap.size < wx.heap.size := by have h_ := hb_wx.size; (try simp at h_); omega
  have hz_wx_1 : w.heap.size + 1 < wx.heap.size := by have h_ := hb_wx.size; (try simp at h_); omega
  have hz_wx_2 : w.heap.size + 1 + 1 < wx.heap.size := by have h_ := hb_wx.size; (try simp at h_); omega
  go_wp2_with fail
  refine (rnew_any _ _ _ _).mono ?_
  rintro e wb ⟨rfl, hl, hb_wb⟩
  have hc_wb := (bcell hb_wb).1
  have hf_wb := (bcell hb_wb).2
  have HL := Lib.hid hl
  clear hl
  have hz_wb_0 : w.heap.size < wb.heap.size := by have h_ := hb_wb.size; (try simp at h_); omega
  have hz_wb_1 : w.heap.size + 1 < wb.heap.size := by have h_ := hb_wb.size; (try simp at h_); omega
  have hz_wb_2 : w.heap.size + 1 + 1 < wb.heap.size := by have h_ := hb_wb.size; (try simp at h_); omega
  have hz_g : wx.heap.size + 1 < wb.heap.size := by have h_ := HL.out; simp [LnkAt] at h_; omega
  go_wp2
  refine bodyPost_ret (v := .tuple #[.agg #[.int .u64 0, .int .i64 0], .agg #[.slice (some ⟨wx.heap.size + 1, 0, none⟩) 1 1, .int .i64 182]]) ?_ rfl (?_ : RNo (.agg #[.int .u64 0, .int .i64 0]) 1 182 w _ _)
  · simp [results, Try.results31, go_sem, *]
  · refine ⟨_, rfl, ?_, by omega, by simp [World.setCell]; omega, (by repeat (first | exact Below.refl _ _ | exact hb_wa | refine Below.on ?_ hb_wa | exact hb_wx | refine Below.on ?_ hb_wx | exact hb_wb | refine Below.on ?_ hb_wb | refine Below.alloc_ ?_ _ | refine Below.drew ?_ | refine below_drewN ?_ | refine Below.setCell ?_ (by first | (simp; done) | (simp; omega)) _))⟩
    exact (((HL.out.setCell _ _ (by intro g n c h; simp at h ⊢; omega)).setCell _ _ (by intro g n c h; simp at h ⊢; omega)).setCell _ _ (by intro g n c h; simp at h ⊢; omega)).setCell _ _ (by intro g n c h; simp at h ⊢; omega)
theorem rank_max {c : Cfg} {n d : Int} (h1 : 1 ≤ c.f) (h2 : c.f ≤ 3) (h0 : 1 ≤ c.mn) (h : validB c n d = true) : rankB c n d ≤ c.mn * (2 * c.f + 1) := by
  rw [validB_iff] at h
  have h3 := three h1 h2
  obtain ⟨f, _, _, _, _, _, _, _, mn, _⟩ := c
  unfold rankB
  simp only at *
  rcases h3 with rfl | rfl | rfl <;> split <;> omega
/-- Where the document's search stands: at a ballot, or at its end; T: what it will answer; k: rounds to come. -/
def OwnSt (c : Cfg) (q : Int) (T : Option (Int × Int)) (B : Nat) (w : World) (x y : Int) (sp : Option Addr) (ln : Nat) (cd : Int) (k : Nat) : Prop :=
  (cd = 0 ∧ sp = none ∧ ln = 0 ∧ validB c x y = true ∧ 0 ≤ x ∧ T = (if y = q then some (x, y) else ownB c x y q) ∧ (c.mn * (2 * c.f + 1) - rankB c x y).toNat + 1 = k) ∨
  (cd = 183 ∧ x = 0 ∧ y = 0 ∧ ln = 1 ∧ (∃ g, sp = some ⟨g, 0, none⟩ ∧ B ≤ g ∧ g < w.heap.size) ∧ LnkAt w (.slice sp ln ln) [(ballotS, 0)] ∧ T = none ∧ k = 0)
theorem rnext_st (b : Nat) (c : Cfg) (n d q : Int) (T : Option (Int × Int)) (w : World) (hg : RefAt w b c) (h1 : 1 ≤ c.f) (h2 : c.f ≤ 3) (hn0 : 0 ≤ n) (hm0 : 1 ≤ c.mn) (hm : c.mn ≤ 1099511627776) (hv : validB c n d = true) (hq : 0 ≤ q ∧ q < 2 * c.f + 1) (hT : T = ownB c n d q) :
    Calls Try.prog 30 #[.pointer (some ⟨b, 0, none⟩), .agg #[.int .u64 n, .int .i64 d]] w fun e w' => ∃ x y sp ln cd k, e = .returned (.tuple #[.agg #[.int .u64 x, .int .i64 y], .agg #[.slice sp ln ln, .int .i64 cd]]) ∧ OwnSt c q T w.heap.size w' x y sp ln cd k ∧ k ≤ (c.mn * (2 * c.f + 1) - rankB c n d).toNat ∧ Below w.heap.size w w' := by
  refine (rnext_ok b c n d w hg h1 h2 hn0 hm0 hm hv).mono ?_
  intro e w' h
  have hs := own_step hm0 hq hv
  rcases hx : nextB c n d with _ | ⟨x, y⟩
  · rw [hx] at h hs
    obtain ⟨g, rfl, hl, hge, hlt, hb⟩ := h
    exact ⟨0, 0, _, 1, 183, 0, rfl, .inr ⟨rfl, rfl, rfl, rfl, ⟨g, rfl, hge, hlt⟩, hl, hT.trans hs, rfl⟩, Nat.zero_le _, hb⟩
  · rw [hx] at h hs
    obtain ⟨rfl, hb⟩ := h
    obtain ⟨v, r, h0⟩ := next_some h1 h2 hm0 hv hx
    have rm := rank_max h1 h2 hm0 v
    exact ⟨x, y, none, 0, 0, _, rfl, .inl ⟨rfl, rfl, rfl, v, h0, hT.trans hs, rfl⟩, by omega, hb⟩
end Go.Proofs.Ytehmbcpgendkjaa
