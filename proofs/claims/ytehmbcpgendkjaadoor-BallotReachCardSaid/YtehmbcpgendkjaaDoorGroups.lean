import Derived.Test.YtehmbcpgendkjaaDoorRefNew
namespace Go.Proofs.YtehmbcpgendkjaaDoor
open Go.RowKit
set_option linter.unusedSimpArgs false
set_option linter.unusedVariables false
theorem Cfg.valid {c : Cfg} (h : c.bad = -1) : (1 ≤ c.f ∧ c.f ≤ 3) ∧ (1 ≤ c.mb ∧ c.mb ≤ 8) ∧ c.dl ≤ 1000 ∧ (1 ≤ c.wd ∧ c.wd ≤ 8) ∧ (1 ≤ c.ev ∧ c.ev ≤ c.wd) ∧ (1 ≤ c.bt ∧ c.bt ≤ 1000) ∧ (1 ≤ c.ep ∧ c.ep ≤ 10000) ∧ (c.ep ≤ c.em ∧ c.em ≤ 100000) ∧
    (1 ≤ c.mn ∧ c.mn ≤ 1099511627776) ∧ (1 ≤ c.ms ∧ c.ms ≤ 1099511627776) := by
  have hall : ∀ k, k < 10 → rowOk c k = true := fun k hk => by
    have hfb : ∀ n j, firstBad c n j = -1 → ∀ i, j ≤ i → i < j + n → rowOk c i = true := by
      intro n
      induction n with
      | zero => intro j _ i h1 h2; omega
      | succ n ih =>
        intro j h i h1 h2
        unfold firstBad at h
        split at h
        · rename_i hr
          by_cases e : i = j
          · rw [e]; exact hr
          · exact ih (j + 1) h i (by omega) (by omega)
        · omega
    exact hfb 10 0 h k (Nat.zero_le _) (by omega)
  have h0 := hall 0 (by omega); have h1 := hall 1 (by omega); have h2 := hall 2 (by omega); have h3 := hall 3 (by omega); have h4 := hall 4 (by omega)
  have h5 := hall 5 (by omega); have h6 := hall 6 (by omega); have h7 := hall 7 (by omega); have h8 := hall 8 (by omega); have h9 := hall 9 (by omega)
  simp only [rowOk, Bool.and_eq_true, decide_eq_true_eq] at h0 h1 h2 h3 h4 h5 h6 h7 h8 h9
  exact ⟨h0, h1, h2, h3, h4, h5, h6, h7, h8, h9⟩
/-- What groups answers: both groups, or neither; always true. -/
def GroupsPost (c : Cfg) (w : World) (e : Ending) (w' : World) : Prop :=
  (c.bad = -1 ∧ ∃ b d, e = .returned (.tuple #[.pointer (some ⟨b, 0, none⟩), .pointer (some ⟨d, 0, none⟩), .bool true]) ∧ w.heap.size ≤ b ∧ GrpAt w' b c (2 * c.f + 1) ∧ RefAt w' d c ∧ Below w.heap.size w w') ∨
  (c.bad ≠ -1 ∧ e = .returned (.tuple #[.pointer none, .pointer none, .bool true]) ∧ Below w.heap.size w w')
theorem ErrIs.form {w : World} {l : List (ByteArray × Int)} {x : ByteArray × Int} {c : Int} {v : Value} (h : ErrIs w (x :: l) c v) : ∃ b, v = .iface 128 (.pointer (some ⟨b, 0, none⟩)) := by
  obtain ⟨s, i⟩ := x
  obtain ⟨b, v', rfl, _⟩ := h
  exact ⟨b, rfl⟩
set_option maxRecDepth 100000 in
set_option maxHeartbeats 1600000 in
theorem groups_any (c : Cfg) (w : World) (ok : c.Ok) : Calls Tryd.prog 10 #[.agg #[.int .i64 c.f, .int .i64 c.mb, .int .u64 c.dl, .int .u64 c.wd, .int .u64 c.ev, .int .u64 c.bt, .int .u64 c.ep, .int .u64 c.em, .int .u64 c.mn, .int .u64 c.ms]] w (GroupsPost c w) := by
  go_enter Tryd.func10, Tryd.ntmps10
  go_wp2_with fail
  refine (new_any c _ ok).mono ?_
  rintro e wa (⟨hb, b, rfl, hlb, hg, hb_wa⟩ | ⟨k, hb, v, rfl, he, hb_wa⟩)
  · have HB := Lib.hid hb
    have HG := Lib.hid hg
    clear hb hg
    have hc_wa := (bcell hb_wa).1
    have hz_wa_0 : w.heap.size < wa.heap.size := by have h_ := hb_wa.size; (try simp at h_); omega
    go_wp2_with fail
    refine (refnew_any c _).mono ?_
    rintro e wb (⟨_, d, rfl, hld, hr, hb_wb⟩ | ⟨k, hk, _⟩)
    · have HR := Lib.hid hr
      clear hr
      have hc_wb := (bcell hb_wb).1
      have hf_wb := (bcell hb_wb).2
      have hz_wb_0 : w.heap.size < wb.heap.size := by have h_ := hb_wb.size; (try simp at h_); omega
      go_wp2_with fail
      refine (is_nil _).mono ?_
      rintro e wc ⟨rfl, hb_wc⟩
      have hc_wc := (bcell hb_wc).1
      have hf_wc := (bcell hb_wc).2
      go_wp2
      go_ret3
      refine .inl ⟨HB.out, b, d, rfl, ?_, ?_, ?_, (by repeat (first | exact Below.refl _ _ | exact hb_wa | refine Below.on ?_ hb_wa | exact hb_wb | refine Below.on ?_ hb_wb | exact hb_wc | refine Below.on ?_ hb_wc | refine Below.alloc_ ?_ _ | refine Below.drew ?_ | refine below_drewN ?_ | refine Below.setCell ?_ (by first | (simp; done) | (simp; omega)) _))⟩
      · have h_ := hb_wa.size; simp at h_ hlb; omega
      · exact ((HG.out.below HG.out.lt (hb_wb.mono (Nat.le_refl _))).below (Nat.lt_of_lt_of_le HG.out.lt (by have h_ := hb_wb.size; simpa using h_)) (by repeat (first | exact Below.refl _ _ | refine Below.alloc ?_ (by first | (simp; done) | (simp; omega)) _ | refine Below.drew ?_ | refine below_drewN ?_))).below (Nat.lt_of_lt_of_le HG.out.lt (by have h_ := hb_wb.size; simp; omega)) hb_wc
      · exact (HR.out.below HR.out.lt (by repeat (first | exact Below.refl _ _ | refine Below.alloc ?_ (by first | (simp; done) | (simp; omega)) _ | refine Below.drew ?_ | refine below_drewN ?_))).below (by have h_ := HR.out.lt; simp; omega) hb_wc
    · exact absurd HB.out (by rw [hk]; omega)
  · obtain ⟨q, rfl⟩ := he.form
    have HB := Lib.hid hb
    have HE := Lib.hid he
    clear hb he
    have hc_wa := (bcell hb_wa).1
    have hz_wa_0 : w.heap.size < wa.heap.size := by have h_ := hb_wa.size; (try simp at h_); omega
    go_wp2_with fail
    refine (refnew_any c _).mono ?_
    rintro e wb (⟨hk, _⟩ | ⟨k', hk, g, rfl, hl, hb_wb⟩)
    · exact absurd HB.out (by rw [hk]; omega)
    · have hkk : k' = k := by have h_ := HB.out; omega
      subst hkk
      clear hk
      have HL := Lib.hid hl
      clear hl
      have hc_wb := (bcell hb_wb).1
      have hf_wb := (bcell hb_wb).2
      have hz_wb_0 : w.heap.size < wb.heap.size := by have h_ := hb_wb.size; (try simp at h_); omega
      go_wp2_with fail
      refine (is_err _ _ [(ballotS, (k' : Int))] 180 _ ?_ ?_ (by simp) (by simp) (by omega)).mono ?_
      · exact HE.out.below (Nat.le_refl _) (by repeat (first | exact Below.refl _ _ | exact hb_wb | refine Below.on ?_ hb_wb | refine Below.alloc_ ?_ _ | refine Below.drew ?_ | refine below_drewN ?_ | refine Below.setCell ?_ (by first | (simp; done) | (simp; omega)) _))
      · exact HL.out.below (Nat.le_refl _) (by repeat (first | exact Below.refl _ _ | refine Below.alloc_ ?_ _ | refine Below.drew ?_ | refine below_drewN ?_ | refine Below.setCell ?_ (by first | (simp; done) | (simp; omega)) _))
      rintro e wc ⟨rfl, hb_wc⟩
      have hc_wc := (bcell hb_wc).1
      go_wp2
      go_ret3
      exact .inr ⟨by rw [HB.out]; omega, rfl, (by repeat (first | exact Below.refl _ _ | exact hb_wa | refine Below.on ?_ hb_wa | exact hb_wb | refine Below.on ?_ hb_wb | exact hb_wc | refine Below.on ?_ hb_wc | refine Below.alloc_ ?_ _ | refine Below.drew ?_ | refine below_drewN ?_ | refine Below.setCell ?_ (by first | (simp; done) | (simp; omega)) _))⟩
end Go.Proofs.YtehmbcpgendkjaaDoor
