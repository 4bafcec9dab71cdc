import Derived.Test.YtehmbcpgendkjaaDoorNew
import Derived.Deep.RegionWith
namespace Go.Proofs.YtehmbcpgendkjaaDoor
open Go.RowKit
set_option linter.unusedSimpArgs false
set_option linter.unusedVariables false
theorem rnone_any (w : World) : Calls Tryd.prog 70 #[] w fun e w' => e = .returned (.agg #[.slice none 0 0, .int .i64 0]) ∧ w.alloc (.cells #[.slice none 0 0, .int .i64 0] 94) = w' := by
  go_enter Tryd.func70, Tryd.ntmps70
  go_wp2
  exact bodyPost_ret (v := .agg #[.slice none 0 0, .int .i64 0]) (by simp [results, Tryd.results70, go_sem]) rfl ⟨rfl, rfl⟩
theorem rnew_any (s : ByteArray) (i c : Int) (w : World) : Calls Tryd.prog 69 #[.string s, .int .i64 i, .int .i64 c] w fun e w' =>
    e = .returned (.agg #[.slice (some ⟨w.heap.size + 1, 0, none⟩) 1 1, .int .i64 c]) ∧ LnkAt w' (.slice (some ⟨w.heap.size + 1, 0, none⟩) 1 1) [(s, i)] ∧ Below w.heap.size w w' := by
  go_enter Tryd.func69, Tryd.ntmps69
  go_wp2
  refine bodyPost_ret (v := .agg #[.slice (some ⟨w.heap.size + 1, 0, none⟩) 1 1, .int .i64 c]) (by simp [results, Tryd.results69, go_sem]) rfl ⟨rfl, ?_, (by repeat (first | exact Below.refl _ _ | refine Below.alloc_ ?_ _ | refine Below.drew ?_ | refine below_drewN ?_ | refine Below.setCell ?_ (by first | (simp; done) | (simp; omega)) _))⟩
  refine .inr ⟨_, 1, rfl, by simp, fun j v hv => ?_⟩
  match j, hv with
  | 0, hv => simp [lnk] at hv; subst hv; simp
  | 1, hv => simp [lnk] at hv; subst hv; simp
  | j + 2, hv => simp [lnk] at hv
theorem LnkAt.setCell {w : World} {s : Value} {l : List (ByteArray × Int)} (h : LnkAt w s l) (p : Addr) (v : Value) (hne : ∀ g n c, s = .slice (some ⟨g, 0, none⟩) n c → p.block ≠ g) : LnkAt (w.setCell p v) s l := by
  rcases h with h | ⟨g, cap, h1, h2, h3⟩
  · exact .inl h
  · exact .inr ⟨g, cap, h1, by simpa [World.setCell] using h2, fun i u hu => (World.cell?_setCell_far _ _ _ _ (hne g _ _ h1)).trans (h3 i u hu)⟩
/-- What the document's New answers. -/
def RefNewPost (c : Cfg) (w : World) (e : Ending) (w' : World) : Prop :=
  (c.bad = -1 ∧ ∃ b, e = .returned (.tuple #[.pointer (some ⟨b, 0, none⟩), .agg #[.slice none 0 0, .int .i64 0]]) ∧ w.heap.size ≤ b ∧ RefAt w' b c ∧ Below w.heap.size w w') ∨
  (∃ k : Nat, c.bad = k ∧ ∃ g, e = .returned (.tuple #[.pointer none, .agg #[.slice (some ⟨g, 0, none⟩) 1 1, .int .i64 180]]) ∧ LnkAt w' (.slice (some ⟨g, 0, none⟩) 1 1) [(ballotS, (k : Int))] ∧ Below w.heap.size w w')
theorem bad_cases (c : Cfg) : c.bad = -1 ∨ ∃ k : Nat, c.bad = k := by
  have h : ∀ n k, firstBad c n k = -1 ∨ ∃ j : Nat, firstBad c n k = j := by
    intro n
    induction n with
    | zero => intro k; exact .inl rfl
    | succ n ih =>
      intro k
      unfold firstBad
      split
      · exact ih (k + 1)
      · exact .inr ⟨k, rfl⟩
  exact h 10 0
set_option maxHeartbeats 1600000 in
theorem refnew_any (c : Cfg) (w : World) : Calls Tryd.prog 52 #[.agg #[.int .i64 c.f, .int .i64 c.mb, .int .u64 c.dl, .int .u64 c.wd, .int .u64 c.ev, .int .u64 c.bt, .int .u64 c.ep, .int .u64 c.em, .int .u64 c.mn, .int .u64 c.ms]] w (RefNewPost c w) := by
  have F := field_walk c
  rcases bad_cases c with hb | ⟨k, hb⟩
  · have HB := Lib.hid hb
    rw [hb] at F
    have F := Lib.hid F
    clear hb
    go_enter Tryd.func52, Tryd.ntmps52
    go_wp2_with fail
    refine (F.out _).mono ?_
    rintro e wa ⟨rfl, hb_wa⟩
    have hc_wa := (bcell hb_wa).1
    have hf_wa := (bcell hb_wa).2
    have hz_wa_0 : w.heap.size < wa.heap.size := by have h_ := hb_wa.size; (try simp at h_); omega
    have hz_wa_1 : w.heap.size + 1 < wa.heap.size := by have h_ := hb_wa.size; (try simp at h_); omega
    go_wp2
    go_region_with (go_at_call 70; refine (rnone_any _).mono ?_; rintro e w' ⟨rfl, rfl⟩)
    all_goals go_wp2
    all_goals first | (refine bodyPost_ret (v := .tuple #[.pointer (some ⟨wa.heap.size, 0, none⟩), .agg #[.slice none 0 0, .int .i64 0]]) ?_ rfl (.inl ⟨HB.out, _, rfl, ?_, ⟨?_, ?_, ?_, ?_, ?_, ?_, ?_, ?_, ?_, ?_, ?_⟩, (by repeat (first | exact Below.refl _ _ | exact hb_wa | refine Below.on ?_ hb_wa | refine Below.alloc_ ?_ _ | refine Below.drew ?_ | refine below_drewN ?_ | refine Below.setCell ?_ (by first | (simp; done) | (simp; omega)) _))⟩); (focus (simp [results, Tryd.results52, go_sem, *]; done))) | (refine bodyPost_ret (v := .tuple #[.pointer (some ⟨wa.heap.size + 1, 0, none⟩), .agg #[.slice none 0 0, .int .i64 0]]) ?_ rfl (.inl ⟨HB.out, _, rfl, ?_, ⟨?_, ?_, ?_, ?_, ?_, ?_, ?_, ?_, ?_, ?_, ?_⟩, (by repeat (first | exact Below.refl _ _ | exact hb_wa | refine Below.on ?_ hb_wa | refine Below.alloc_ ?_ _ | refine Below.drew ?_ | refine below_drewN ?_ | refine Below.setCell ?_ (by first | (simp; done) | (simp; omega)) _))⟩); (focus (simp [results, Tryd.results52, go_sem, *]; done)))
    all_goals first | (simp; done) | (go_simp; done) | (have h_ := hb_wa.size; simp at h_; first | omega | (simp; omega) | (simp [World.setCell]; omega)) | (simp [World.cell?_alloc_at, World.setCell]; done)
  · have HB := Lib.hid hb
    rw [hb] at F
    have F := Lib.hid F
    have hk0 : (0 : Int) ≤ (k : Int) := Int.natCast_nonneg _
    clear hb
    go_enter Tryd.func52, Tryd.ntmps52
    go_wp2_with fail
    refine (F.out _).mono ?_
    rintro e wa ⟨rfl, hb_wa⟩
    have hc_wa := (bcell hb_wa).1
    have hf_wa := (bcell hb_wa).2
    have hz_wa_0 : w.heap.size < wa.heap.size := by have h_ := hb_wa.size; (try simp at h_); omega
    have hz_wa_1 : w.heap.size + 1 < wa.heap.size := by have h_ := hb_wa.size; (try simp at h_); omega
    go_wp2_with fail
    refine (rnew_any _ _ _ _).mono ?_
    rintro e wb ⟨rfl, hl, hb_wb⟩
    have hc_wb := (bcell hb_wb).1
    have hf_wb := (bcell hb_wb).2
    have hz_wb_0 : w.heap.size < wb.heap.size := by have h_ := hb_wb.size; (try simp at h_); omega
    have hz_wb_1 : w.heap.size + 1 < wb.heap.size := by have h_ := hb_wb.size; (try simp at h_); omega
    go_wp2
    refine bodyPost_ret (v := .tuple #[.pointer none, .agg #[.slice (some ⟨wa.heap.size + 1, 0, none⟩) 1 1, .int .i64 180]]) (by simp [results, Tryd.results52, go_sem, *]) rfl (.inr ⟨k, HB.out, _, rfl, ?_, (by repeat (first | exact Below.refl _ _ | exact hb_wa | refine Below.on ?_ hb_wa | exact hb_wb | refine Below.on ?_ hb_wb | refine Below.alloc_ ?_ _ | refine Below.drew ?_ | refine below_drewN ?_ | refine Below.setCell ?_ (by first | (simp; done) | (simp; omega)) _))⟩)
    exact (hl.setCell _ _ (fun g n cc e => by simp at e; obtain ⟨rfl, _⟩ := e; first | (simp; omega) | omega)).setCell _ _ (fun g n cc e => by simp at e; obtain ⟨rfl, _⟩ := e; first | (simp; omega) | omega)
end Go.Proofs.YtehmbcpgendkjaaDoor
