import Derived.Test.YtehmbcpgendkjaaGroups
namespace Go.Proofs.Ytehmbcpgendkjaa
open Go.RowKit
set_option linter.unusedSimpArgs false
set_option linter.unusedVariables false
/-- A sum up to a bound. -/
def addTo (a b m : Int) : Int := if m < a ∨ m - a < b then m else a + b
theorem add_any (a b m : Int) (w : World) (ha : 0 ≤ a) (hb : 0 ≤ b) (hm : 0 ≤ m) (hm2 : m < 18446744073709551616) :
    Calls Try.prog 37 #[.int .u64 a, .int .u64 b, .int .u64 m] w fun e w' => e = .returned (.int .u64 (addTo a b m)) ∧ w = w' := by
  unfold addTo
  by_cases h1 : m < a
  · rw [if_pos (.inl h1)]
    go_enter Try.func37, Try.ntmps37
    go_wp2
    go_ret
    exact ⟨rfl, rfl⟩
  · have hd : decide (m < a) = false := decide_eq_false h1
    by_cases h2 : m - a < b
    · rw [if_pos (.inr h2)]
      go_enter Try.func37, Try.ntmps37
      go_wp2
      go_ret
      exact ⟨rfl, rfl⟩
    · rw [if_neg (by omega)]
      have hd2 : decide (m - a < b) = false := decide_eq_false h2
      go_enter Try.func37, Try.ntmps37
      go_wp2
      go_ret
      exact ⟨rfl, rfl⟩
theorem radd_any (a b m : Int) (w : World) (ha : 0 ≤ a) (hb : 0 ≤ b) (hm : 0 ≤ m) (hm2 : m < 18446744073709551616) :
    Calls Try.prog 38 #[.int .u64 a, .int .u64 b, .int .u64 m] w fun e w' => e = .returned (.int .u64 (addTo a b m)) ∧ w = w' := by
  unfold addTo
  by_cases h1 : m ≤ a
  · rw [show (if m < a ∨ m - a < b then m else a + b) = m by split <;> omega]
    go_enter Try.func38, Try.ntmps38
    go_wp2
    go_ret
    exact ⟨rfl, rfl⟩
  · have hd : decide (m ≤ a) = false := decide_eq_false h1
    by_cases h2 : m - a ≤ b
    · rw [show (if m < a ∨ m - a < b then m else a + b) = m by split <;> omega]
      go_enter Try.func38, Try.ntmps38
      go_wp2
      go_ret
      exact ⟨rfl, rfl⟩
    · rw [if_neg (by omega)]
      have hd2 : decide (m - a ≤ b) = false := decide_eq_false h2
      go_enter Try.func38, Try.ntmps38
      go_wp2
      go_ret
      exact ⟨rfl, rfl⟩
theorem high_nil (a : Int) (w : World) : Calls Try.prog 14 #[.pointer none, .int .u64 a] w fun e w' => e = .returned (.int .u64 0) ∧ w = w' := by
  go_enter Try.func14, Try.ntmps14
  go_wp2_with (go_at_call 43; refine (made_nil _).mono ?_; rintro e w1 ⟨rfl, rfl⟩)
  go_ret
  exact ⟨rfl, rfl⟩
theorem high_at (b : Nat) (c : Cfg) (n a : Int) (w : World) (hg : GrpAt w b c n) (hn : 0 < n) (ha : 0 ≤ a) (h0 : 0 ≤ c.wd) (h1 : 0 ≤ c.ms) (h2 : c.ms < 18446744073709551616) :
    Calls Try.prog 14 #[.pointer (some ⟨b, 0, none⟩), .int .u64 a] w fun e w' => e = .returned (.int .u64 (addTo a c.wd c.ms)) ∧ ∃ m, w.drewN m = w' := by
  have hn' : decide (0 < n) = true := decide_eq_true hn
  have M := made_at b n w hg.nodes
  rw [hn'] at M
  have M := Lib.hid M
  have q3 := hg.wd
  have q9 := hg.ms
  clear hg
  go_enter Try.func14, Try.ntmps14
  go_wp2_with (go_at_call 43; refine M.out.mono ?_; rintro e w1 ⟨rfl, rfl⟩)
  go_quiet ((go_at_call 37; exact Calls.quiet_of_same ((add_any a c.wd c.ms _ ha h0 h1 h2).mono (fun e w1 h => ⟨h.1, h.2.symm⟩))))
  go_wp2
  go_ret
  exact ⟨rfl, _, rfl⟩
theorem rhigh_at (b : Nat) (c : Cfg) (a : Int) (w : World) (hg : RefAt w b c) (ha : 0 ≤ a) (h0 : 0 ≤ c.wd) (h1 : 0 ≤ c.ms) (h2 : c.ms < 18446744073709551616) :
    Calls Try.prog 16 #[.pointer (some ⟨b, 0, none⟩), .int .u64 a] w fun e w' => e = .returned (.int .u64 (addTo a c.wd c.ms)) ∧ ∃ m, w.drewN m = w' := by
  have q3 := hg.wd
  have q9 := hg.ms
  clear hg
  go_enter Try.func16, Try.ntmps16
  go_wp2
  go_quiet ((go_at_call 38; exact Calls.quiet_of_same ((radd_any a c.wd c.ms _ ha h0 h1 h2).mono (fun e w1 h => ⟨h.1, h.2.symm⟩))))
  go_wp2
  go_ret
  exact ⟨rfl, _, rfl⟩
theorem inside_nil (a s : Int) (w : World) (hs : 0 ≤ s) : Calls Try.prog 15 #[.pointer none, .int .u64 a, .int .u64 s] w fun e w' => e = .returned (.bool false) ∧ w = w' := by
  by_cases h : a ≤ s
  · have h1 : decide (s < 0) = false := decide_eq_false (by omega)
    go_enter Try.func15, Try.ntmps15
    go_wp2_with (go_at_call 14; refine (high_nil _ _).mono ?_; rintro e w1 ⟨rfl, rfl⟩)
    go_ret
    exact ⟨rfl, rfl⟩
  · go_enter Try.func15, Try.ntmps15
    go_wp2
    go_ret
    exact ⟨rfl, rfl⟩
theorem inside_at (b : Nat) (c : Cfg) (n a s : Int) (w : World) (hg : GrpAt w b c n) (hn : 0 < n) (ha : 0 ≤ a) (h0 : 0 ≤ c.wd) (h1 : 0 ≤ c.ms) (h2 : c.ms < 18446744073709551616) :
    Calls Try.prog 15 #[.pointer (some ⟨b, 0, none⟩), .int .u64 a, .int .u64 s] w fun e w' => e = .returned (.bool (decide (a ≤ s ∧ s < addTo a c.wd c.ms))) ∧ ∃ m, w.drewN m = w' := by
  have H := Lib.hid (high_at b c n a w hg hn ha h0 h1 h2)
  clear hg
  by_cases h : a ≤ s
  · go_enter Try.func15, Try.ntmps15
    go_wp2_with (go_at_call 14; refine H.out.mono ?_; rintro e w1 ⟨rfl, m, rfl⟩)
    go_ret
    exact ⟨by simp [h], _, rfl⟩
  · go_enter Try.func15, Try.ntmps15
    go_wp2
    go_ret
    exact ⟨by simp; omega, 0, rfl⟩
theorem rinside_at (b : Nat) (c : Cfg) (a s : Int) (w : World) (hg : RefAt w b c) (ha : 0 ≤ a) (h0 : 0 ≤ c.wd) (h1 : 0 ≤ c.ms) (h2 : c.ms < 18446744073709551616) :
    Calls Try.prog 17 #[.pointer (some ⟨b, 0, none⟩), .int .u64 a, .int .u64 s] w fun e w' => e = .returned (.bool (decide (a ≤ s ∧ s < addTo a c.wd c.ms))) ∧ ∃ m, w.drewN m = w' := by
  have H := Lib.hid (rhigh_at b c a w hg ha h0 h1 h2)
  clear hg
  by_cases h : a ≤ s
  · go_enter Try.func17, Try.ntmps17
    go_wp2_with (go_at_call 16; refine H.out.mono ?_; rintro e w1 ⟨rfl, m, rfl⟩)
    go_ret
    exact ⟨by simp [h], _, rfl⟩
  · go_enter Try.func17, Try.ntmps17
    go_wp2
    go_ret
    exact ⟨by simp; omega, 0, rfl⟩
theorem GrpAt.drewN {w : World} {b m : Nat} {c : Cfg} {n : Int} (h : GrpAt w b c n) : GrpAt (w.drewN m) b c n := ⟨h.lt, h.f, h.mb, h.dl, h.wd, h.ev, h.bt, h.ep, h.em, h.mn, h.ms, h.nodes⟩
theorem RefAt.drewN {w : World} {b m : Nat} {c : Cfg} (h : RefAt w b c) : RefAt (w.drewN m) b c := ⟨h.lt, h.f, h.mb, h.dl, h.wd, h.ev, h.bt, h.ep, h.em, h.mn, h.ms⟩
set_option maxHeartbeats 1600000 in
theorem slots_walk (c : Cfg) (low slot : Int) (w : World) (ok : c.Ok) (h1 : 0 ≤ low) (h2 : 0 ≤ slot) :
    Calls Try.prog 5 #[.agg #[.int .i64 c.f, .int .i64 c.mb, .int .u64 c.dl, .int .u64 c.wd, .int .u64 c.ev, .int .u64 c.bt, .int .u64 c.ep, .int .u64 c.em, .int .u64 c.mn, .int .u64 c.ms], .int .u64 low, .int .u64 slot] w fun e w' => e = .returned (.bool true) ∧ Below w.heap.size w w' := by
  go_enter Try.func5, Try.ntmps5
  go_wp2_with fail
  refine (groups_any c _ ok).mono ?_
  rintro e wa (⟨hb, b, d, rfl, hlb, hg, hr, hb_wa⟩ | ⟨hb, rfl, hb_wa⟩)
  · obtain ⟨⟨f1, f2⟩, _, _, ⟨v1, v2⟩, _, _, _, _, _, ⟨s1, s2⟩⟩ := Cfg.valid hb
    have HG := Lib.hid hg
    have HR := Lib.hid hr
    clear hb hg hr
    go_wp2_with fail
    refine (high_at b c (2 * c.f + 1) low _ HG.out (by omega) h1 (by omega) (by omega) (by omega)).mono ?_
    rintro e w1 ⟨rfl, m1, rfl⟩
    go_wp2_with fail
    refine (rhigh_at d c low _ HR.out.drewN h1 (by omega) (by omega) (by omega)).mono ?_
    rintro e w1 ⟨rfl, m2, rfl⟩
    go_wp2_with fail
    refine (inside_at b c (2 * c.f + 1) low slot _ ?_ (by omega) h1 (by omega) (by omega) (by omega)).mono ?_
    · exact HG.out.drewN
    rintro e w1 ⟨rfl, m3, rfl⟩
    go_wp2_with fail
    refine (rinside_at d c low slot _ ?_ h1 (by omega) (by omega) (by omega)).mono ?_
    · exact HR.out.drewN
    rintro e w1 ⟨rfl, m4, rfl⟩
    go_wp2
    go_ret
    exact ⟨by simp, (by repeat (first | exact Below.refl _ _ | exact hb_wa | refine Below.on ?_ hb_wa | refine Below.alloc_ ?_ _ | refine Below.drew ?_ | refine below_drewN ?_ | refine Below.setCell ?_ (by first | (simp; done) | (simp; omega)) _))⟩
  · go_wp2_with (first | (go_at_call 14; refine (high_nil _ _).mono ?_; rintro e w1 ⟨rfl, rfl⟩) | (go_at_call 15; refine (inside_nil _ _ _ h2).mono ?_; rintro e w1 ⟨rfl, rfl⟩))
    go_ret
    exact ⟨rfl, (by repeat (first | exact Below.refl _ _ | exact hb_wa | refine Below.on ?_ hb_wa | refine Below.alloc_ ?_ _ | refine Below.drew ?_ | refine below_drewN ?_ | refine Below.setCell ?_ (by first | (simp; done) | (simp; omega)) _))⟩
theorem wf_i64 {n : Int} (h : (Lit.int .i64 n).wf = true) : -9223372036854775808 ≤ n ∧ n < 9223372036854775808 := by
  simp [Lit.wf, IntKind.min, IntKind.max, IntKind.signed, IntKind.bits] at h; omega
theorem wf_u64 {n : Int} (h : (Lit.int .u64 n).wf = true) : 0 ≤ n ∧ n < 18446744073709551616 := by
  simp [Lit.wf, IntKind.min, IntKind.max, IntKind.signed, IntKind.bits] at h; omega
theorem slots_law (a0 a1 a2 a3 a4 a5 a6 a7 a8 a9 low slot : Int) (w : World) (h0 : (Lit.int .i64 a0).wf = true) (h1 : (Lit.int .i64 a1).wf = true) (h2 : (Lit.int .u64 a2).wf = true) (h3 : (Lit.int .u64 a3).wf = true) (h4 : (Lit.int .u64 a4).wf = true) (h5 : (Lit.int .u64 a5).wf = true) (h6 : (Lit.int .u64 a6).wf = true) (h7 : (Lit.int .u64 a7).wf = true) (h8 : (Lit.int .u64 a8).wf = true) (h9 : (Lit.int .u64 a9).wf = true) (h10 : (Lit.int .u64 low).wf = true) (h11 : (Lit.int .u64 slot).wf = true) :
    Calls Try.prog 5 #[.agg #[.int .i64 a0, .int .i64 a1, .int .u64 a2, .int .u64 a3, .int .u64 a4, .int .u64 a5, .int .u64 a6, .int .u64 a7, .int .u64 a8, .int .u64 a9], .int .u64 low, .int .u64 slot] w fun e w' => e = .returned (.bool true) ∧ Below w.heap.size w w' :=
  slots_walk ⟨a0, a1, a2, a3, a4, a5, a6, a7, a8, a9⟩ low slot w ⟨(wf_i64 h0).1, (wf_i64 h0).2, (wf_i64 h1).1, (wf_i64 h1).2, (wf_u64 h2).1, (wf_u64 h3).1, (wf_u64 h4).1, (wf_u64 h5).1, (wf_u64 h6).1, (wf_u64 h7).1, (wf_u64 h8).1, (wf_u64 h9).1⟩ (wf_u64 h10).1 (wf_u64 h11).1
end Go.Proofs.Ytehmbcpgendkjaa
