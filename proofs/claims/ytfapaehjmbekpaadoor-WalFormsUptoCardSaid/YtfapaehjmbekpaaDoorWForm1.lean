import Derived.Test.YtfapaehjmbekpaaDoorWRefFrame
import Derived.Test.YtfapaehjmbekpaaDoorWRd
namespace Go.Proofs.YtfapaehjmbekpaaDoor
open Go.RowKit
set_option linter.unusedSimpArgs false
set_option linter.unusedVariables false
/-- The program's error of code c; none at 0. -/
def ErrC (w : World) (ev : Value) (c : Int) : Prop := (c = 0 ∧ ev = .nilIface) ∨ (c ≠ 0 ∧ ErrIs w [(walS, 0)] c ev)
/-- The document's refusal of code c; none at 0. -/
def FltC (w : World) (s : Value) (c : Int) : Prop := (c = 0 ∧ s = .slice none 0 0) ∨ (c ≠ 0 ∧ LnkAt w s [(walS, 0)])
theorem ErrC.below {w w' : World} {ev : Value} {c : Int} (h : ErrC w ev c) (hb : Below w.heap.size w w') : ErrC w' ev c := h.imp id fun ⟨h1, h2⟩ => ⟨h1, h2.below (Nat.le_refl _) hb⟩
theorem FltC.below {w w' : World} {s : Value} {c : Int} (h : FltC w s c) (hb : Below w.heap.size w w') : FltC w' s c := h.imp id fun ⟨h1, h2⟩ => ⟨h1, h2.below (Nat.le_refl _) hb⟩
theorem is_both (ev s : Value) (c : Int) (w : World) (h1 : ErrC w ev c) (h2 : FltC w s c) : Calls Tryd.prog 7 #[ev, .agg #[s, .int .i64 c]] w fun e w' => e = .returned (.bool true) ∧ Below w.heap.size w w' := by
  rcases h1 with ⟨rfl, rfl⟩ | ⟨hc, h1⟩
  · rcases h2 with ⟨_, rfl⟩ | ⟨h, _⟩
    · exact is_nil w
    · exact absurd rfl h
  · rcases h2 with ⟨h, _⟩ | ⟨_, h2⟩
    · exact absurd h hc
    · exact is_err ev s _ c w h1 h2 (by simp) (by simp) hc
def HdP (l : List Int) (cc : Int) (w : World) (e : Ending) (w' : World) : Prop := ∃ p n c ev, e = .returned (.tuple #[.slice p n c, ev]) ∧ l.length = n ∧ RdB w' p l ∧ ErrC w' ev cc ∧ Below w.heap.size w w'
def HdR (l : List Int) (cc : Int) (w : World) (e : Ending) (w' : World) : Prop := ∃ p n c sp sn sc, e = .returned (.tuple #[.slice p n c, .agg #[.slice sp sn sc, .int .i64 cc]]) ∧ l.length = n ∧ RdB w' p l ∧ FltC w' (.slice sp sn sc) cc ∧ Below w.heap.size w w'
theorem rdB_nil (w : World) (p : Option Addr) : RdB w p [] := fun j hj => by simp at hj
theorem HdR.refuse {c : Int} {w w' : World} {e : Ending} (h : RefuseR c w e w') (hc : c ≠ 0) : HdR [] c w e w' := by
  obtain ⟨s, h1, h2, h3⟩ := h
  rcases h2 with ⟨h, _⟩ | ⟨g, cap, rfl, h4, h5⟩
  · simp at h
  · exact ⟨none, 0, 0, _, _, _, h1, rfl, rdB_nil _ _, .inr ⟨hc, .inr ⟨g, cap, rfl, h4, h5⟩⟩, h3⟩
theorem HdR.ok {l : List Int} {w w' : World} {e : Ending} (h : ∃ v', e = .returned (.tuple #[v', .agg #[.slice none 0 0, .int .i64 0]]) ∧ OwnB w' w.heap.size v' l ∧ Below w.heap.size w w') : HdR l 0 w e w' := by
  obtain ⟨v', h1, h2, h3⟩ := h
  obtain ⟨p, c, rfl, hr⟩ := h2.form
  exact ⟨p, _, c, none, 0, 0, h1, rfl, hr, .inl ⟨rfl, rfl⟩, h3⟩
theorem HdP.ok {l : List Int} {w w' : World} {e : Ending} (h : ∃ v', e = .returned (.tuple #[v', .nilIface]) ∧ OwnB w' w.heap.size v' l ∧ Below w.heap.size w w') : HdP l 0 w e w' := by
  obtain ⟨v', h1, h2, h3⟩ := h
  obtain ⟨p, c, rfl, hr⟩ := h2.form
  exact ⟨p, _, c, .nilIface, h1, rfl, hr, .inl ⟨rfl, rfl⟩, h3⟩
def RefuseP (c : Int) (w : World) (e : Ending) (w' : World) : Prop := ∃ b, e = .returned (.tuple #[.slice none 0 0, .iface 68 (.pointer (some ⟨b, 0, none⟩))]) ∧ ErrIs w' [(walS, 0)] c (.iface 68 (.pointer (some ⟨b, 0, none⟩))) ∧ Below w.heap.size w w'
theorem HdP.refuse {c : Int} {w w' : World} {e : Ending} (h : RefuseP c w e w') (hc : c ≠ 0) : HdP [] c w e w' := by
  obtain ⟨b, h1, h2, h3⟩ := h
  exact ⟨none, 0, 0, _, h1, rfl, rdB_nil _ _, .inr ⟨hc, h2⟩, h3⟩
set_option maxRecDepth 100000 in
set_option maxHeartbeats 1600000 in
theorem header_base (f : Nat) (base : Int) (w : World) (h0 : f ≠ 0) (hf : f ≤ 4611686018427387904) (h : base < 0 ∨ 64 < base) : Calls Tryd.prog 5 #[.int .u64 f, .int .i64 base] w (RefuseP 169 w) := by
  have h1 : ((f : Nat) : Int) ≠ 0 := by omega
  have h1' : (((f : Nat) : Int) == 0) = false := by simpa using h1
  have h1d : decide (((f : Nat) : Int) = 0) = false := decide_eq_false h1
  have hf' : ¬ (4611686018427387904 : Int) < (f : Nat) := by omega
  clear h0 h1
  by_cases hb : base < 0
  · clear h
    go_enter Tryd.func5, Tryd.ntmps5
    go_wp2_with fail
    refine (fault_at 169 _).mono ?_
    rintro e w1 ⟨b, rfl, he, hb⟩
    replace he := Lib.hid he
    replace hb := Lib.hid hb
    go_wp2
    go_ret2
    exact ⟨b, rfl, he.out, hb.out⟩
  · have hb2 : 64 < base := by omega
    clear h
    go_enter Tryd.func5, Tryd.ntmps5
    go_wp2_with fail
    refine (fault_at 169 _).mono ?_
    rintro e w1 ⟨b, rfl, he, hb⟩
    replace he := Lib.hid he
    replace hb := Lib.hid hb
    go_wp2
    go_ret2
    exact ⟨b, rfl, he.out, hb.out⟩
set_option maxRecDepth 100000 in
set_option maxHeartbeats 1600000 in
theorem rheader_base (f : Nat) (base : Int) (w : World) (h0 : f ≠ 0) (hf : f ≤ 4611686018427387904) (h : base < 0 ∨ 64 < base) : Calls Tryd.prog 6 #[.int .u64 f, .int .i64 base] w (RefuseR 169 w) := by
  have h1 : ((f : Nat) : Int) ≠ 0 := by omega
  have h1' : (((f : Nat) : Int) == 0) = false := by simpa using h1
  have h1d : decide (((f : Nat) : Int) = 0) = false := decide_eq_false h1
  have hf' : ¬ (4611686018427387904 : Int) < (f : Nat) := by omega
  clear h0 h1
  by_cases hb : base < 0
  · clear h
    go_enter Tryd.func6, Tryd.ntmps6
    go_wp2_with fail
    refine (rno_at 169 _).mono ?_
    rintro e wa ⟨g, rfl, hgl, hs, hb_wa⟩
    simp at hgl
    have hc_wa := (bcell hb_wa).1
    have hf_wa := (bcell hb_wa).2
    have hz_wa_0 : w.heap.size < wa.heap.size := by have h_ := hb_wa.size; (try simp at h_); omega
    replace hs := Lib.hid hs
    go_wp2
    refine bodyPost_ret (v := .tuple #[.slice none 0 0, .agg #[.slice (some ⟨g, 0, none⟩) 1 1, .int .i64 169]]) (by simp [results, Tryd.results6, go_sem, *]) rfl ⟨_, rfl, ?_, ?_⟩
    · exact (hs.out.set _ fun g' n c e => by injection e with e1; injection e1 with e1; injection e1 with e1; simp; omega).set _ fun g' n c e => by injection e with e1; injection e1 with e1; injection e1 with e1; simp; omega
    · exact (by repeat (first | with_reducible refine Below.drew ?_ | with_reducible refine below_drewN ?_ | with_reducible refine Below.alloc_ ?_ _ | with_reducible refine Below.setCell ?_ (by first | (simp; done) | (simp; omega)) _ | with_reducible exact Below.refl _ _ | with_reducible exact hb_wa | with_reducible refine Below.on ?_ hb_wa ))
  · have hb2 : 64 < base := by omega
    clear h
    go_enter Tryd.func6, Tryd.ntmps6
    go_wp2_with fail
    refine (rno_at 169 _).mono ?_
    rintro e wa ⟨g, rfl, hgl, hs, hb_wa⟩
    simp at hgl
    have hc_wa := (bcell hb_wa).1
    have hf_wa := (bcell hb_wa).2
    have hz_wa_0 : w.heap.size < wa.heap.size := by have h_ := hb_wa.size; (try simp at h_); omega
    replace hs := Lib.hid hs
    go_wp2
    refine bodyPost_ret (v := .tuple #[.slice none 0 0, .agg #[.slice (some ⟨g, 0, none⟩) 1 1, .int .i64 169]]) (by simp [results, Tryd.results6, go_sem, *]) rfl ⟨_, rfl, ?_, ?_⟩
    · exact (hs.out.set _ fun g' n c e => by injection e with e1; injection e1 with e1; injection e1 with e1; simp; omega).set _ fun g' n c e => by injection e with e1; injection e1 with e1; injection e1 with e1; simp; omega
    · exact (by repeat (first | with_reducible refine Below.drew ?_ | with_reducible refine below_drewN ?_ | with_reducible refine Below.alloc_ ?_ _ | with_reducible refine Below.setCell ?_ (by first | (simp; done) | (simp; omega)) _ | with_reducible exact Below.refl _ _ | with_reducible exact hb_wa | with_reducible refine Below.on ?_ hb_wa ))
set_option maxRecDepth 100000 in
set_option maxHeartbeats 1600000 in
theorem frame_idx (i : Int) (p : Option Addr) (n c : Nat) (w : World) (h : i < 0 ∨ 2147483647 < i) : Calls Tryd.prog 10 #[.int .i64 i, .slice p n c] w (RefuseP 1 w) := by
  by_cases hb : i < 0
  · clear h
    go_enter Tryd.func10, Tryd.ntmps10
    go_wp2_with fail
    refine (fault_at 1 _).mono ?_
    rintro e w1 ⟨b, rfl, he, hb⟩
    replace he := Lib.hid he
    replace hb := Lib.hid hb
    go_wp2
    go_ret2
    exact ⟨b, rfl, he.out, hb.out⟩
  · have hb2 : 2147483647 < i := by omega
    clear h
    go_enter Tryd.func10, Tryd.ntmps10
    go_wp2_with fail
    refine (fault_at 1 _).mono ?_
    rintro e w1 ⟨b, rfl, he, hb⟩
    replace he := Lib.hid he
    replace hb := Lib.hid hb
    go_wp2
    go_ret2
    exact ⟨b, rfl, he.out, hb.out⟩
set_option maxRecDepth 100000 in
set_option maxHeartbeats 1600000 in
theorem rframe_idx (i : Int) (p : Option Addr) (n c : Nat) (w : World) (h : i < 0 ∨ 2147483647 < i) : Calls Tryd.prog 11 #[.int .i64 i, .slice p n c] w (RefuseR 1 w) := by
  by_cases hb : i < 0
  · clear h
    go_enter Tryd.func11, Tryd.ntmps11
    go_wp2_with fail
    refine (rno_at 1 _).mono ?_
    rintro e wa ⟨g, rfl, hgl, hs, hb_wa⟩
    simp at hgl
    have hc_wa := (bcell hb_wa).1
    have hf_wa := (bcell hb_wa).2
    have hz_wa_0 : w.heap.size < wa.heap.size := by have h_ := hb_wa.size; (try simp at h_); omega
    replace hs := Lib.hid hs
    go_wp2
    refine bodyPost_ret (v := .tuple #[.slice none 0 0, .agg #[.slice (some ⟨g, 0, none⟩) 1 1, .int .i64 1]]) (by simp [results, Tryd.results11, go_sem, *]) rfl ⟨_, rfl, ?_, ?_⟩
    · exact (hs.out.set _ fun g' n c e => by injection e with e1; injection e1 with e1; injection e1 with e1; simp; omega).set _ fun g' n c e => by injection e with e1; injection e1 with e1; injection e1 with e1; simp; omega
    · exact (by repeat (first | with_reducible refine Below.drew ?_ | with_reducible refine below_drewN ?_ | with_reducible refine Below.alloc_ ?_ _ | with_reducible refine Below.setCell ?_ (by first | (simp; done) | (simp; omega)) _ | with_reducible exact Below.refl _ _ | with_reducible exact hb_wa | with_reducible refine Below.on ?_ hb_wa ))
  · have hb2 : 2147483647 < i := by omega
    clear h
    go_enter Tryd.func11, Tryd.ntmps11
    go_wp2_with fail
    refine (rno_at 1 _).mono ?_
    rintro e wa ⟨g, rfl, hgl, hs, hb_wa⟩
    simp at hgl
    have hc_wa := (bcell hb_wa).1
    have hf_wa := (bcell hb_wa).2
    have hz_wa_0 : w.heap.size < wa.heap.size := by have h_ := hb_wa.size; (try simp at h_); omega
    replace hs := Lib.hid hs
    go_wp2
    refine bodyPost_ret (v := .tuple #[.slice none 0 0, .agg #[.slice (some ⟨g, 0, none⟩) 1 1, .int .i64 1]]) (by simp [results, Tryd.results11, go_sem, *]) rfl ⟨_, rfl, ?_, ?_⟩
    · exact (hs.out.set _ fun g' n c e => by injection e with e1; injection e1 with e1; injection e1 with e1; simp; omega).set _ fun g' n c e => by injection e with e1; injection e1 with e1; injection e1 with e1; simp; omega
    · exact (by repeat (first | with_reducible refine Below.drew ?_ | with_reducible refine below_drewN ?_ | with_reducible refine Below.alloc_ ?_ _ | with_reducible refine Below.setCell ?_ (by first | (simp; done) | (simp; omega)) _ | with_reducible exact Below.refl _ _ | with_reducible exact hb_wa | with_reducible refine Below.on ?_ hb_wa ))
set_option maxRecDepth 100000 in
set_option maxHeartbeats 1600000 in
theorem frame_long (i : Int) (p : Option Addr) (n c : Nat) (w : World) (h0 : 0 ≤ i) (h1 : i ≤ 2147483647) (h : 60000 < n) : Calls Tryd.prog 10 #[.int .i64 i, .slice p n c] w (RefuseP 166 w) := by
  have h2 : ¬ i < 0 := by omega
  have h3 : ¬ 2147483647 < i := by omega
  have h4 : (60000 : Int) < (n : Nat) := by omega
  clear h
  go_enter Tryd.func10, Tryd.ntmps10
  go_wp2_with fail
  refine (fault_at 166 _).mono ?_
  rintro e w1 ⟨b, rfl, he, hb⟩
  replace he := Lib.hid he
  replace hb := Lib.hid hb
  go_wp2
  go_ret2
  exact ⟨b, rfl, he.out, hb.out⟩
set_option maxRecDepth 100000 in
set_option maxHeartbeats 1600000 in
theorem rframe_long (i : Int) (p : Option Addr) (n c : Nat) (w : World) (h0 : 0 ≤ i) (h1 : i ≤ 2147483647) (h : 60000 < n) : Calls Tryd.prog 11 #[.int .i64 i, .slice p n c] w (RefuseR 166 w) := by
  have h2 : ¬ i < 0 := by omega
  have h3 : ¬ 2147483647 < i := by omega
  have h4 : (60000 : Int) < (n : Nat) := by omega
  clear h
  go_enter Tryd.func11, Tryd.ntmps11
  go_wp2_with fail
  refine (rno_at 166 _).mono ?_
  rintro e wa ⟨g, rfl, hgl, hs, hb_wa⟩
  simp at hgl
  have hc_wa := (bcell hb_wa).1
  have hf_wa := (bcell hb_wa).2
  have hz_wa_0 : w.heap.size < wa.heap.size := by have h_ := hb_wa.size; (try simp at h_); omega
  replace hs := Lib.hid hs
  go_wp2
  refine bodyPost_ret (v := .tuple #[.slice none 0 0, .agg #[.slice (some ⟨g, 0, none⟩) 1 1, .int .i64 166]]) (by simp [results, Tryd.results11, go_sem, *]) rfl ⟨_, rfl, ?_, ?_⟩
  · exact (hs.out.set _ fun g' n c e => by injection e with e1; injection e1 with e1; injection e1 with e1; simp; omega).set _ fun g' n c e => by injection e with e1; injection e1 with e1; injection e1 with e1; simp; omega
  · exact (by repeat (first | with_reducible refine Below.drew ?_ | with_reducible refine below_drewN ?_ | with_reducible refine Below.alloc_ ?_ _ | with_reducible refine Below.setCell ?_ (by first | (simp; done) | (simp; omega)) _ | with_reducible exact Below.refl _ _ | with_reducible exact hb_wa | with_reducible refine Below.on ?_ hb_wa ))
set_option maxRecDepth 100000 in
set_option maxHeartbeats 1600000 in
theorem header_file' (f : Nat) (base : Int) (w : World) (h : f = 0 ∨ 4611686018427387904 < f) (hf : f < 18446744073709551616) : Calls Tryd.prog 5 #[.int .u64 f, .int .i64 base] w (RefuseP 1 w) := by
  rcases h with rfl | h
  · go_enter Tryd.func5, Tryd.ntmps5
    go_wp2_with fail
    refine (fault_at 1 _).mono ?_
    rintro e w1 ⟨b, rfl, he, hb⟩
    replace he := Lib.hid he
    replace hb := Lib.hid hb
    go_wp2
    go_ret2
    exact ⟨b, rfl, he.out, hb.out⟩
  · have h1 : ((f : Nat) : Int) ≠ 0 := by omega
    have h1' : (((f : Nat) : Int) == 0) = false := by simpa using h1
    have hf' : (4611686018427387904 : Int) < (f : Nat) := by omega
    have hff : ((f : Nat) : Int) < 18446744073709551616 := by omega
    clear h1
    go_enter Tryd.func5, Tryd.ntmps5
    go_wp2_with fail
    refine (fault_at 1 _).mono ?_
    rintro e w1 ⟨b, rfl, he, hb⟩
    replace he := Lib.hid he
    replace hb := Lib.hid hb
    go_wp2
    go_ret2
    exact ⟨b, rfl, he.out, hb.out⟩
/-- Header, by both, of any arguments. -/
theorem header_both (file : Nat) (base : Int) (hf : file < 18446744073709551616) : ∃ l cc, (∀ w, Nib w → Calls Tryd.prog 5 #[.int .u64 file, .int .i64 base] w (HdP l cc w)) ∧ (∀ w, Calls Tryd.prog 6 #[.int .u64 file, .int .i64 base] w (HdR l cc w)) := by
  by_cases h1 : file = 0 ∨ 4611686018427387904 < file
  · exact ⟨[], 1, fun w _ => (header_file' file base w h1 hf).mono fun e w' h => HdP.refuse h (by decide), fun w => (rheader_file file base w h1 hf).mono fun e w' h => HdR.refuse h (by decide)⟩
  · by_cases h2 : base < 0 ∨ 64 < base
    · exact ⟨[], 169, fun w _ => (header_base file base w (by omega) (by omega) h2).mono fun e w' h => HdP.refuse h (by decide), fun w => (rheader_base file base w (by omega) (by omega) h2).mono fun e w' h => HdR.refuse h (by decide)⟩
    · obtain ⟨b, rfl⟩ : ∃ b : Nat, base = b := ⟨base.toNat, by omega⟩
      exact ⟨hdr file b, 0, fun w hT => (header_ok file b w (by omega) (by omega) (by omega) hT).mono fun e w' h => HdP.ok h, fun w => (rheader_ok file b w (by omega) (by omega) (by omega)).mono fun e w' h => HdR.ok h⟩
/-- Frame, by both, of any arguments. -/
theorem frame_both (i : Int) (n : Nat) (l : List Int) (hl : l.length = n) (hY : Byt l) : ∃ f cc, f.length ≤ 60016 ∧ (∀ p c w, (p = none → c = 0) → RdB w p l → Nib w → Calls Tryd.prog 10 #[.int .i64 i, .slice p n c] w (HdP f cc w)) ∧ (∀ p c w, RdB w p l → Calls Tryd.prog 11 #[.int .i64 i, .slice p n c] w (HdR f cc w)) := by
  by_cases h1 : i < 0 ∨ 2147483647 < i
  · exact ⟨[], 1, by simp, fun p c w _ _ _ => (frame_idx i p n c w h1).mono fun e w' h => HdP.refuse h (by decide), fun p c w _ => (rframe_idx i p n c w h1).mono fun e w' h => HdR.refuse h (by decide)⟩
  · by_cases h2 : 60000 < n
    · exact ⟨[], 166, by simp, fun p c w _ _ _ => (frame_long i p n c w (by omega) (by omega) h2).mono fun e w' h => HdP.refuse h (by decide), fun p c w _ => (rframe_long i p n c w (by omega) (by omega) h2).mono fun e w' h => HdR.refuse h (by decide)⟩
    · obtain ⟨j, rfl⟩ : ∃ j : Nat, i = j := ⟨i.toNat, by omega⟩
      exact ⟨frm j l, 0, by rw [frm_len]; omega, fun p c w hz hr hT => (frame_ok j p n c l w (by omega) hl (by omega) hz hr hY hT).mono fun e w' h => HdP.ok h, fun p c w hr => (rframe_ok j p n c l w (by omega) hl (by omega) hr hY).mono fun e w' h => HdR.ok h⟩
end Go.Proofs.YtfapaehjmbekpaaDoor
