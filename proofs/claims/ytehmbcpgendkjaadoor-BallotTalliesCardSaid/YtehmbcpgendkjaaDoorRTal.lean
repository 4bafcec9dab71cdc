import Derived.Test.YtehmbcpgendkjaaDoorKeys
import Derived.OwnWalk
import Derived.Laws.AppendOwn
namespace Go.Proofs.YtehmbcpgendkjaaDoor
open Go.RowKit Go.Maps
set_option linter.unusedSimpArgs false
set_option linter.unusedVariables false
def cellsK (x : RK) : List Value := [.int .u64 x.1.1, .int .u64 x.1.2.1, .int .i64 x.1.2.2, .int .u32 (x.2 : Nat)]
def flatK (ks : List RK) : List Value := ks.flatMap cellsK
theorem flatK_len (ks : List RK) : (flatK ks).length = ks.length * 4 := by
  induction ks with
  | nil => rfl
  | cons x r ih => simp only [flatK, List.flatMap_cons, List.length_append, List.length_cons] at ih ⊢; rw [ih]; simp [cellsK]; omega
theorem flatK_get (ks : List RK) (i : Nat) (h : i < ks.length) (j : Nat) (hj : j < 4) : (flatK ks)[i * 4 + j]? = (cellsK ks[i])[j]? := by
  induction ks generalizing i with
  | nil => simp at h
  | cons x r ih =>
    have hx : (cellsK x).length = 4 := rfl
    rcases i with _ | i
    · simp only [flatK, List.flatMap_cons, Nat.zero_mul, Nat.zero_add, List.getElem_cons_zero]
      rw [List.getElem?_append_left (by omega)]
    · simp only [flatK, List.flatMap_cons, List.getElem_cons_succ]
      rw [List.getElem?_append_right (by omega), hx, show (i + 1) * 4 + j - 4 = i * 4 + j by omega]
      exact ih i (by simpa using h)
/-- In block rb lies a tally of the document's: its group in hb, its row of keys in block ow (from B on). -/
structure RTal (w : World) (rb hb B : Nat) (A : Option Addr) (cap : Nat) (ks : List RK) : Prop where
  lt : rb < w.heap.size
  low : rb < B
  g : w.cell? ⟨rb, 0, none⟩ = some (.pointer (some ⟨hb, 0, none⟩))
  l : w.cell? ⟨rb, 1, none⟩ = some (.slice A ks.length cap)
  fr : w.frozen? ⟨rb, 1, none⟩ = false
  row : w.ownsRow B 114 4 (.slice A ks.length cap) ks.length (flatK ks)
theorem RTal.keys {w : World} {rb hb B cap : Nat} {A : Option Addr} {ks : List RK} (h : RTal w rb hb B A cap ks) (i : Nat) (hi : i < ks.length) : ∃ g, A = some ⟨g, 0, none⟩ ∧ g < w.heap.size ∧ B ≤ g ∧
    w.cell? ⟨g, i * 4, none⟩ = some (.int .u64 ks[i].1.1) ∧ w.cell? ⟨g, i * 4 + 1, none⟩ = some (.int .u64 ks[i].1.2.1) ∧ w.cell? ⟨g, i * 4 + 2, none⟩ = some (.int .i64 ks[i].1.2.2) ∧ w.cell? ⟨g, i * 4 + 3, none⟩ = some (.int .u32 (ks[i].2 : Nat)) := by
  obtain ⟨hl, h1 | ⟨g, c, cur, hv, hB, hh, hn, hm, hs, ht⟩⟩ := h.row
  · omega
  · have hA : A = some ⟨g, 0, none⟩ := by injection hv
    refine ⟨g, hA, ?_, hB, ?_⟩
    · by_cases hlt : g < w.heap.size
      · exact hlt
      · rw [Array.getElem?_eq_none (by omega)] at hh; simp at hh
    · have hc : ∀ j, j < 4 → w.cell? ⟨g, i * 4 + j, none⟩ = (cellsK ks[i])[j]? := fun j hj => by
        rw [← flatK_get ks i hi j hj, ← ht]
        unfold World.cell?
        simp only [hh]
        rw [List.getElem?_take_of_lt (by omega)]
        simp
      exact ⟨hc 0 (by omega), hc 1 (by omega), hc 2 (by omega), hc 3 (by omega)⟩
theorem no_step {ks : List RK} {key : Int × Int × Int} {k : Nat} (hno : ∀ j (hj : j < ks.length), j < k → ks[j].1 ≠ key) (hk : k < ks.length) (hne : ks[k].1 ≠ key) : ∀ j (hj : j < ks.length), j < k + 1 → ks[j].1 ≠ key := by
  intro j hj hjk
  by_cases e : j = k
  · subst e; exact hne
  · exact hno j hj (by omega)
/-- What find answers. -/
def FindIs (ks : List RK) (key : Int × Int × Int) (r : Int) : Prop := (r = -1 ∧ ∀ x ∈ ks, x.1 ≠ key) ∨ ∃ i : Nat, r = i ∧ ∃ h : i < ks.length, ks[i].1 = key
set_option maxRecDepth 100000 in
set_option maxHeartbeats 1600000 in
theorem rfind_at (rb hb B cap : Nat) (A : Option Addr) (ks : List RK) (n bn bd : Int) (w : World) (h : RTal w rb hb B A cap ks) (hlen : ks.length ≤ 64) :
    Calls Tryd.prog 63 #[.pointer (some ⟨rb, 0, none⟩), .int .u64 n, .agg #[.int .u64 bn, .int .i64 bd]] w fun e w' => (∃ r, e = .returned (.int .i64 r) ∧ FindIs ks (n, bn, bd) r) ∧ Below w.heap.size w w' := by
  have c1 := h.l
  have lt := h.lt
  have HK := Lib.hid h.keys
  clear h
  go_enter Tryd.func63, Tryd.ntmps63
  go_wp2
  go_loopw [7] (fun i wr => ∃ k : Nat, i = .int .i64 k ∧ k ≤ ks.length ∧ (∀ j (hj : j < ks.length), j < k → ks[j].1 ≠ (n, bn, bd)) ∧ Below (w.heap.size + 1) (w.alloc (.cells #[.int .u64 bn, .int .i64 bd] 49)) wr) (fun i _ => 64 - (intOf i).toNat)
  case atStart => exact ⟨0, rfl, by omega, by intro j hj h; omega, by simpa using Below.refl _ _⟩
  case round =>
    obtain ⟨k, rfl, hk1, hno, hB⟩ := hrel
    have hw0 : Below w.heap.size w wr := (below_alloc w _).trans (hB.mono (by omega))
    have k1 : wr.cell? ⟨rb, 1, none⟩ = some (.slice A ks.length cap) := (hw0.cell (p := ⟨rb, 1, none⟩) lt).trans c1
    have b0 : wr.cell? ⟨w.heap.size, 0, none⟩ = some (.int .u64 bn) := (hB.cell (p := ⟨w.heap.size, 0, none⟩) (by simp)).trans (by simp)
    have b1 : wr.cell? ⟨w.heap.size, 1, none⟩ = some (.int .i64 bd) := (hB.cell (p := ⟨w.heap.size, 1, none⟩) (by simp)).trans (by simp)
    have hsz : w.heap.size + 1 ≤ wr.heap.size := by simpa using hB.size
    have s1 : rb < wr.heap.size := by omega
    have s2 : w.heap.size < wr.heap.size := by omega
    by_cases hlt : k < ks.length
    · obtain ⟨g, rfl, hg, hBg, e1, e2, e3, e4⟩ := HK.out k hlt
      obtain ⟨x, hx⟩ : ∃ x, x = ks[k] := ⟨_, rfl⟩
      rw [← hx] at e1 e2 e3
      obtain ⟨⟨xn, xbn, xbd⟩, xf⟩ := x
      simp only at e1 e2 e3
      replace e1 := (hw0.cell (p := ⟨g, k * 4, none⟩) hg).trans e1
      replace e2 := (hw0.cell (p := ⟨g, k * 4 + 1, none⟩) hg).trans e2
      replace e3 := (hw0.cell (p := ⟨g, k * 4 + 2, none⟩) hg).trans e3
      have s3 : g < wr.heap.size := by omega
      replace hx := Lib.hid hx
      replace hno := Lib.hid hno
      replace hB := Lib.hid hB
      clear e4 c1
      by_cases hN : xn = n
      · subst hN
        by_cases hE : xbn = bn
        · subst hE
          by_cases hD : xbd = bd
          · subst hD
            go_wp2_with fail
            refine wp_region_below (by kernel_rfl) (by kernel_rfl) ?_
            repeat first | go_big_quiet_skip | (go_big_quiet_want; go_big_quiet_op; go_big_quiet_on) | (go_big_quiet_want; rename_i K hK; apply quiet_mk; (focus (intro w1 hw1; have hc1 := (bcell hw1).1; have hf1 := (bcell hw1).2; go_simp; first | done | rfl | (fail))); refine hK _ ?_; clear hK K; try simp only [Act.put, List.setIfInBounds_toArray, List.set_cons_zero, List.set_cons_succ])
            refine wpQuiet_nil ?_
            intro wa hb_wa
            have hc_wa := (bcell hb_wa).1
            have hf_wa := (bcell hb_wa).2
            go_wp2
            go_ret
            exact ⟨⟨_, rfl, .inr ⟨k, rfl, hlt, by rw [← hx.out]⟩⟩, hw0.trans (hb_wa.mono hw0.size)⟩
          · go_wp2_with fail
            refine wp_region_below (by kernel_rfl) (by kernel_rfl) ?_
            repeat first | go_big_quiet_skip | (go_big_quiet_want; go_big_quiet_op; go_big_quiet_on) | (go_big_quiet_want; rename_i K hK; apply quiet_mk; (focus (intro w1 hw1; have hc1 := (bcell hw1).1; have hf1 := (bcell hw1).2; go_simp; first | done | rfl | (fail))); refine hK _ ?_; clear hK K; try simp only [Act.put, List.setIfInBounds_toArray, List.set_cons_zero, List.set_cons_succ])
            refine wpQuiet_nil ?_
            intro wa hb_wa
            have hc_wa := (bcell hb_wa).1
            have hf_wa := (bcell hb_wa).2
            go_wp2
            go_roundw
            case measure => simp [intOf]; omega
            case rel => exact ⟨k + 1, by go_num, by omega, no_step hno.out hlt (by rw [← hx.out]; intro e; injection e with e1 e2; injection e2 with e2 e3; exact hD e3), hB.out.trans (hb_wa.mono (by omega))⟩
        · go_wp2_with fail
          refine wp_region_below (by kernel_rfl) (by kernel_rfl) ?_
          repeat first | go_big_quiet_skip | (go_big_quiet_want; go_big_quiet_op; go_big_quiet_on) | (go_big_quiet_want; rename_i K hK; apply quiet_mk; (focus (intro w1 hw1; have hc1 := (bcell hw1).1; have hf1 := (bcell hw1).2; go_simp; first | done | rfl | (fail))); refine hK _ ?_; clear hK K; try simp only [Act.put, List.setIfInBounds_toArray, List.set_cons_zero, List.set_cons_succ])
          refine wpQuiet_nil ?_
          intro wa hb_wa
          have hc_wa := (bcell hb_wa).1
          have hf_wa := (bcell hb_wa).2
          go_wp2
          go_roundw
          case measure => simp [intOf]; omega
          case rel => exact ⟨k + 1, by go_num, by omega, no_step hno.out hlt (by rw [← hx.out]; intro e; injection e with e1 e2; injection e2 with e2 e3; exact hE e2), hB.out.trans (hb_wa.mono (by omega))⟩
      · have hq : (xn == n) = false := beq_eq_false_iff_ne.mpr hN
        have hq' : decide (xn = n) = false := decide_eq_false hN
        go_wp2_with fail
        refine wp_region_below (by kernel_rfl) (by kernel_rfl) ?_
        repeat first | go_big_quiet_skip | (go_big_quiet_want; go_big_quiet_op; go_big_quiet_on) | (go_big_quiet_want; rename_i K hK; apply quiet_mk; (focus (intro w1 hw1; have hc1 := (bcell hw1).1; have hf1 := (bcell hw1).2; go_simp; first | done | rfl | (fail))); refine hK _ ?_; clear hK K; try simp only [Act.put, List.setIfInBounds_toArray, List.set_cons_zero, List.set_cons_succ])
        refine wpQuiet_nil ?_
        intro wa hb_wa
        have hc_wa := (bcell hb_wa).1
        have hf_wa := (bcell hb_wa).2
        go_wp2
        go_roundw
        case measure => simp [intOf]; omega
        case rel => exact ⟨k + 1, by go_num, by omega, no_step hno.out hlt (by rw [← hx.out]; intro e; injection e with e1 e2; injection e2 with e2 e3; exact hN e1), hB.out.trans (hb_wa.mono (by omega))⟩
    · obtain rfl : k = ks.length := by omega
      go_wp2
      go_ret
      exact ⟨⟨_, rfl, .inl ⟨rfl, fun x hx => by obtain ⟨j, hj, rfl⟩ := List.mem_iff_getElem.1 hx; exact hno j hj hj⟩⟩, hw0⟩
def idxI (ks : List RK) (key : KK) : Int := match idxK ks key with
  | none => -1
  | some i => i
theorem idx_find {ks : List RK} {key : KK} {r : Int} (h : FindIs ks key r) (hn : NodK ks) : r = idxI ks key := by
  unfold idxI
  rcases h with ⟨rfl, h⟩ | ⟨i, rfl, hi, h⟩
  · rw [idx_of_not h]
  · rw [idx_of_mem hn hi h]
theorem rfind_is (rb hb B cap : Nat) (A : Option Addr) (ks : List RK) (n bn bd : Int) (w : World) (h : RTal w rb hb B A cap ks) (hlen : ks.length ≤ 64) (hn : NodK ks) :
    Calls Tryd.prog 63 #[.pointer (some ⟨rb, 0, none⟩), .int .u64 n, .agg #[.int .u64 bn, .int .i64 bd]] w fun e w' => e = .returned (.int .i64 (idxI ks (n, bn, bd))) ∧ Below w.heap.size w w' :=
  (rfind_at rb hb B cap A ks n bn bd w h hlen).mono fun e w' ⟨⟨r, h1, h2⟩, h3⟩ => ⟨idx_find h2 hn ▸ h1, h3⟩
theorem RTal.below {w w' : World} {rb hb B cap : Nat} {A : Option Addr} {ks : List RK} (h : RTal w rb hb B A cap ks) (hb' : Below w.heap.size w w') : RTal w' rb hb B A cap ks := by
  obtain ⟨h1, h2, h3, h4, h5, h6⟩ := h
  refine ⟨Nat.lt_of_lt_of_le h1 hb'.size, h2, (hb'.cell (p := ⟨rb, 0, none⟩) h1).trans h3, (hb'.cell (p := ⟨rb, 1, none⟩) h1).trans h4, ?_, ?_⟩
  · exact (World.frozen?_of_block (hb'.block rb h1)).trans h5
  · obtain ⟨hl, h | ⟨g, c, cur, hv, hB, hh, hn, hm, hs, ht⟩⟩ := h6
    · exact ⟨hl, .inl h⟩
    · refine ⟨hl, .inr ⟨g, c, cur, hv, hB, (hb'.block g ?_).trans hh, hn, hm, hs, ht⟩⟩
      by_cases hlt : g < w.heap.size
      · exact hlt
      · rw [Array.getElem?_eq_none (by omega)] at hh; simp at hh
theorem rtlen_at (rb hb B cap : Nat) (A : Option Addr) (ks : List RK) (w : World) (h : RTal w rb hb B A cap ks) : Calls Tryd.prog 43 #[.pointer (some ⟨rb, 0, none⟩)] w fun e w' => e = .returned (.int .i64 (ks.length : Nat)) ∧ w = w' := by
  have c1 := h.l
  clear h
  go_enter Tryd.func43, Tryd.ntmps43
  go_wp2
  go_ret
  exact ⟨rfl, rfl⟩
set_option maxRecDepth 100000 in
theorem rtnodes_at (rb hb B cap : Nat) (A : Option Addr) (ks : List RK) (n bn bd : Int) (w : World) (h : RTal w rb hb B A cap ks) (hlen : ks.length ≤ 64) (hn : NodK ks) :
    Calls Tryd.prog 40 #[.pointer (some ⟨rb, 0, none⟩), .int .u64 n, .agg #[.int .u64 bn, .int .i64 bd]] w fun e w' => e = .returned (.int .u32 ((lookK ks (n, bn, bd)).getD 0 : Nat)) ∧ Below w.heap.size w w' := by
  have F : ∀ w1, Below w.heap.size w w1 → Calls Tryd.prog 63 #[.pointer (some ⟨rb, 0, none⟩), .int .u64 n, .agg #[.int .u64 bn, .int .i64 bd]] w1 fun e w' => e = .returned (.int .i64 (idxI ks (n, bn, bd))) ∧ Below w1.heap.size w1 w' := fun w1 hb1 => rfind_is rb hb B cap A ks n bn bd w1 (h.below hb1) hlen hn
  have c1 := h.l
  have lt := h.lt
  unfold idxI at F
  rcases hk : idxK ks (n, bn, bd) with _ | i
  · have hl := idx_none hk
    simp only [hk] at F
    rw [hl]
    replace F := Lib.hid F
    clear h hk hl
    go_enter Tryd.func40, Tryd.ntmps40
    go_wp2_with fail
    refine (F.out _ (below_alloc _ _)).mono ?_
    rintro e wa ⟨rfl, hb_wa⟩
    have hc_wa := (bcell hb_wa).1
    have hf_wa := (bcell hb_wa).2
    go_wp2
    go_ret
    exact ⟨rfl, (by repeat (first | exact Below.refl _ _ | exact hb_wa | refine Below.on ?_ hb_wa | refine Below.alloc_ ?_ _ | refine Below.drew ?_ | refine below_drewN ?_ | refine Below.setCell ?_ (by first | (simp; done) | (simp; omega)) _))⟩
  · obtain ⟨hi, hke, hl⟩ := idx_some hk
    simp only [hk] at F
    rw [hl]
    obtain ⟨g, rfl, hg, hBg, e1, e2, e3, e4⟩ := h.keys i hi
    generalize ks[i].2 = v at e4 ⊢
    replace F := Lib.hid F
    clear h hk hl hke e1 e2 e3
    go_enter Tryd.func40, Tryd.ntmps40
    go_wp2_with fail
    refine (F.out _ (below_alloc _ _)).mono ?_
    rintro e wa ⟨rfl, hb_wa⟩
    have hc_wa := (bcell hb_wa).1
    have hf_wa := (bcell hb_wa).2
    go_wp2
    go_ret
    exact ⟨rfl, (by repeat (first | exact Below.refl _ _ | exact hb_wa | refine Below.on ?_ hb_wa | refine Below.alloc_ ?_ _ | refine Below.drew ?_ | refine below_drewN ?_ | refine Below.setCell ?_ (by first | (simp; done) | (simp; omega)) _))⟩
end Go.Proofs.YtehmbcpgendkjaaDoor
