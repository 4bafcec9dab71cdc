import Derived.Test.YtfapaehjmbekpaaDoorErr
namespace Go.Proofs.YtfapaehjmbekpaaDoor
open Go.RowKit
set_option linter.unusedSimpArgs false
set_option linter.unusedVariables false
/-- A slice of links, read. -/
def LnkAt (w : World) (s : Value) (l : List (ByteArray × Int)) : Prop :=
  (l = [] ∧ s = .slice none 0 0) ∨ ∃ g cap, s = .slice (some ⟨g, 0, none⟩) l.length cap ∧ g < w.heap.size ∧ ∀ i v, (lnk l)[i]? = some v → w.cell? ⟨g, i, none⟩ = some v
theorem lnk_get (l : List (ByteArray × Int)) (k : Nat) (h : k < l.length) : (lnk l)[k * 2]? = some (.string l[k].1) ∧ (lnk l)[k * 2 + 1]? = some (.int .i64 l[k].2) := by
  induction l generalizing k with
  | nil => simp at h
  | cons x r ih =>
    obtain ⟨s, a⟩ := x
    cases k with
    | zero => simp [lnk]
    | succ k =>
      have := ih k (by simpa using h)
      rw [show (k + 1) * 2 = k * 2 + 1 + 1 from by omega]
      simpa [lnk] using this
theorem LnkAt.of_owns {w : World} {B : Nat} {s : Value} {l : List (ByteArray × Int)} (h : w.ownsRow B 74 2 s l.length (lnk l)) : LnkAt w s l := by
  rcases h.2 with ⟨rfl, h0⟩ | ⟨g, cap, cur, rfl, hb, hg, hr⟩
  · exact .inl ⟨by simpa using h0, rfl⟩
  · refine .inr ⟨g, cap, rfl, ?_, fun i v hv => ?_⟩
    · rcases Nat.lt_or_ge g w.heap.size with hlt | hge
      · exact hlt
      · rw [Array.getElem?_eq_none hge] at hg; cases hg
    · rw [h.cellAt i (by have := (List.getElem?_eq_some_iff.1 hv).1; rw [h.1] at this; exact this)]
      exact hv
theorem LnkAt.below {w w' : World} {B : Nat} {s : Value} {l : List (ByteArray × Int)} (h : LnkAt w s l) (hB : w.heap.size ≤ B) (hb : Below B w w') : LnkAt w' s l := by
  rcases h with h | ⟨g, cap, h1, h2, h3⟩
  · exact .inl h
  · exact .inr ⟨g, cap, h1, Nat.lt_of_lt_of_le h2 hb.size, fun i v hv => (hb.cell (p := ⟨g, i, none⟩) (by simp; omega)).trans (h3 i v hv)⟩
theorem ErrIs.below {w w' : World} {B : Nat} (hB : w.heap.size ≤ B) (hb : Below B w w') : ∀ {l : List (ByteArray × Int)} {c : Int} {v : Value}, ErrIs w l c v → ErrIs w' l c v
  | [], _, _, h => h
  | (s, i) :: r, c, v, ⟨b, v', h1, h2, h3, h4, h5, h6⟩ => ⟨b, v', h1, Nat.lt_of_lt_of_le h2 hb.size, (hb.cell (p := ⟨b, 0, none⟩) (by simp; omega)).trans h3, (hb.cell (p := ⟨b, 1, none⟩) (by simp; omega)).trans h4,
      (hb.cell (p := ⟨b, 2, none⟩) (by simp; omega)).trans h5, ErrIs.below hB hb h6⟩
set_option maxRecDepth 100000 in
set_option maxHeartbeats 1600000 in
theorem same_any (sa sb : Value) (l : List (ByteArray × Int)) (c : Int) (w : World) (ha : LnkAt w sa l) (hb : LnkAt w sb l) (hl : l.length ≤ 1000) :
    Calls Tryd.prog 30 #[.agg #[sa, .int .i64 c], .agg #[sb, .int .i64 c]] w fun e w' => e = .returned (.bool true) ∧ Below w.heap.size w w' := by
  rcases ha with ⟨rfl, rfl⟩ | ⟨ga, capa, rfl, hga, hca⟩
  · rcases hb with ⟨_, rfl⟩ | ⟨gb, capb, rfl, hgb, hcb⟩
    · go_enter Tryd.func30, Tryd.ntmps30
      go_wp2
      refine wp_loop_once ?_
      go_wp2
      go_ret
      exact ⟨rfl, (by repeat (first | exact Below.refl _ _ | refine Below.alloc_ ?_ _ | refine Below.drew ?_ | refine below_drewN ?_ | refine Below.setCell ?_ (by first | (simp; done) | (simp; omega)) _))⟩
    · go_enter Tryd.func30, Tryd.ntmps30
      go_wp2
      refine wp_loop_once ?_
      go_wp2
      go_ret
      exact ⟨rfl, (by repeat (first | exact Below.refl _ _ | refine Below.alloc_ ?_ _ | refine Below.drew ?_ | refine below_drewN ?_ | refine Below.setCell ?_ (by first | (simp; done) | (simp; omega)) _))⟩
  · rcases hb with ⟨rfl, rfl⟩ | ⟨gb, capb, rfl, hgb, hcb⟩
    · go_enter Tryd.func30, Tryd.ntmps30
      go_wp2
      refine wp_loop_once ?_
      go_wp2
      go_ret
      exact ⟨rfl, (by repeat (first | exact Below.refl _ _ | refine Below.alloc_ ?_ _ | refine Below.drew ?_ | refine below_drewN ?_ | refine Below.setCell ?_ (by first | (simp; done) | (simp; omega)) _))⟩
    · have HCA := Lib.hid hca
      have HCB := Lib.hid hcb
      clear hca hcb
      go_enter Tryd.func30, Tryd.ntmps30
      go_wp2
      go_loopw [5] (fun i wr => ∃ k : Nat, k ≤ l.length ∧ i = .int .i64 k ∧ wr.cell? ⟨w.heap.size, 0, none⟩ = some (.slice (some ⟨ga, 0, none⟩) l.length capa) ∧ wr.cell? ⟨w.heap.size + 1, 0, none⟩ = some (.slice (some ⟨gb, 0, none⟩) l.length capb) ∧ Below w.heap.size w wr) (fun i _ => l.length - (intOf i).toNat)
      case atStart => exact ⟨0, Nat.zero_le _, rfl, by simp, by simp, (by repeat (first | exact Below.refl _ _ | refine Below.alloc_ ?_ _ | refine Below.drew ?_ | refine below_drewN ?_ | refine Below.setCell ?_ (by first | (simp; done) | (simp; omega)) _))⟩
      case round =>
        obtain ⟨k, hk, rfl, q0, q1, hB⟩ := hrel
        by_cases hlt : k < l.length
        · have ra := (hB.cell (p := ⟨ga, k * 2, none⟩) hga).trans (HCA.out _ _ (lnk_get l k hlt).1)
          have rb := (hB.cell (p := ⟨gb, k * 2, none⟩) hgb).trans (HCB.out _ _ (lnk_get l k hlt).1)
          have sa := (hB.cell (p := ⟨ga, k * 2 + 1, none⟩) hga).trans (HCA.out _ _ (lnk_get l k hlt).2)
          have sb := (hB.cell (p := ⟨gb, k * 2 + 1, none⟩) hgb).trans (HCB.out _ _ (lnk_get l k hlt).2)
          have hk0 : (0 : Int) ≤ (k : Int) := Int.natCast_nonneg _
          have hk1 : (k : Int) < (l.length : Int) := by omega
          go_wp2
          go_quiet (fail)
          go_wp2
          go_roundw
          case rel => exact ⟨k + 1, by omega, by go_num, by simpa using q0, by simpa using q1, by repeat (first | exact hB | refine Below.drew ?_ | refine below_drewN ?_)⟩
          case measure => simp [intOf]; omega
        · go_wp2
          go_ret
          exact ⟨rfl, hB⟩
set_option maxHeartbeats 800000 in
theorem is_nil (w : World) : Calls Tryd.prog 7 #[.nilIface, .agg #[.slice none 0 0, .int .i64 0]] w fun e w' => e = .returned (.bool true) ∧ Below w.heap.size w w' := by
  have hs := fun w => same_any (.slice none 0 0) (.slice none 0 0) [] 0 w (.inl ⟨rfl, rfl⟩) (.inl ⟨rfl, rfl⟩) (by simp)
  have HS := Lib.hid hs
  clear hs
  go_enter Tryd.func7, Tryd.ntmps7
  go_wp2_with fail
  refine (told_nil _).mono ?_
  rintro e wa ⟨rfl, hb_wa⟩
  have hc_wa := (bcell hb_wa).1
  have hf_wa := (bcell hb_wa).2
  have hz_wa_0 : w.heap.size < wa.heap.size := by have h_ := hb_wa.size; (try simp at h_); omega
  go_wp2_with fail
  refine (HS.out _).mono ?_
  rintro e wb ⟨rfl, hb_wb⟩
  have hc_wb := (bcell hb_wb).1
  have hf_wb := (bcell hb_wb).2
  go_wp2
  go_ret
  exact ⟨rfl, (by repeat (first | exact Below.refl _ _ | exact hb_wa | refine Below.on ?_ hb_wa | exact hb_wb | refine Below.on ?_ hb_wb | refine Below.alloc_ ?_ _ | refine Below.drew ?_ | refine below_drewN ?_ | refine Below.setCell ?_ (by first | (simp; done) | (simp; omega)) _))⟩
set_option maxHeartbeats 800000 in
theorem is_err (v s : Value) (l : List (ByteArray × Int)) (c : Int) (w : World) (he : ErrIs w l c v) (hs : LnkAt w s l) (h1 : 1 ≤ l.length) (h2 : l.length ≤ 11) (h0 : c ≠ 0) :
    Calls Tryd.prog 7 #[v, .agg #[s, .int .i64 c]] w fun e w' => e = .returned (.bool true) ∧ Below w.heap.size w w' := by
  have HE := Lib.hid he
  have HS := Lib.hid hs
  have H0 := Lib.hid h0
  clear he hs h0
  go_enter Tryd.func7, Tryd.ntmps7
  go_wp2_with fail
  refine (told_any l c v _ (HE.out.below (Nat.le_refl _) (by repeat (first | exact Below.refl _ _ | refine Below.alloc_ ?_ _ | refine Below.drew ?_ | refine below_drewN ?_ | refine Below.setCell ?_ (by first | (simp; done) | (simp; omega)) _))) h1 h2 H0.out).mono ?_
  rintro e wa ⟨s1, rfl, ho, hb_wa⟩
  obtain ⟨g, cap, rfl, _, _⟩ := ho.form (by omega)
  have hc_wa := (bcell hb_wa).1
  have hf_wa := (bcell hb_wa).2
  have HO := Lib.hid (LnkAt.of_owns ho)
  clear ho
  have hz_wa_0 : w.heap.size < wa.heap.size := by have h_ := hb_wa.size; (try simp at h_); omega
  go_wp2_with fail
  refine (same_any _ _ l c _ ?_ ?_ (by omega)).mono ?_
  · exact HS.out.below (Nat.le_refl _) (by repeat (first | exact Below.refl _ _ | exact hb_wa | refine Below.on ?_ hb_wa | refine Below.alloc_ ?_ _ | refine Below.drew ?_ | refine below_drewN ?_ | refine Below.setCell ?_ (by first | (simp; done) | (simp; omega)) _))
  · exact HO.out.below (Nat.le_refl _) (by repeat (first | exact Below.refl _ _ | refine Below.alloc_ ?_ _ | refine Below.drew ?_ | refine below_drewN ?_ | refine Below.setCell ?_ (by first | (simp; done) | (simp; omega)) _))
  rintro e wb ⟨rfl, hb_wb⟩
  go_wp2
  go_ret
  exact ⟨rfl, (by repeat (first | exact Below.refl _ _ | exact hb_wa | refine Below.on ?_ hb_wa | exact hb_wb | refine Below.on ?_ hb_wb | refine Below.alloc_ ?_ _ | refine Below.drew ?_ | refine below_drewN ?_ | refine Below.setCell ?_ (by first | (simp; done) | (simp; omega)) _))⟩
end Go.Proofs.YtfapaehjmbekpaaDoor