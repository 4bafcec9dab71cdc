import Derived.Test.YtehmbcpgendkjaaDoorMaj
import Derived.Test.YtehmbcpgendkjaaDoorMade
namespace Go.Proofs.YtehmbcpgendkjaaDoor
open Go.RowKit
set_option linter.unusedSimpArgs false
set_option linter.unusedVariables false
/-- k replicas in a row, from p on, of n in a ring. -/
def ring (n p : Int) : Nat → Nat
  | 0 => 0
  | k + 1 => withB (ring n p k) ((p + k) % n)
theorem ring_lt (n p : Int) : ∀ k, ring n p k < 4294967296
  | 0 => by simp [ring]
  | k + 1 => withB_lt _ (ring_lt n p k)
theorem ring_cnt : ∀ f, f < 4 → 1 ≤ f → ∀ p, p < 2 * f + 1 → cntTo (ring (2 * f + 1 : Nat) (p : Nat) f) (2 * f + 1) = f ∧ cntTo (ring (2 * f + 1 : Nat) (p : Nat) (f + 1)) (2 * f + 1) = f + 1 := by decide
theorem ring_maj (c : Cfg) (p : Int) (h1 : 1 ≤ c.f) (h2 : c.f ≤ 3) (hp : 0 ≤ p) (hp2 : p < 2 * c.f + 1) :
    majB c (ring (2 * c.f + 1) p c.f.toNat) = false ∧ majB c (withB (ring (2 * c.f + 1) p c.f.toNat) ((p + c.f) % (2 * c.f + 1))) = true := by
  obtain ⟨f, hf⟩ : ∃ f : Nat, c.f = f := ⟨c.f.toNat, by omega⟩
  obtain ⟨q, rfl⟩ : ∃ q : Nat, p = q := ⟨p.toNat, by omega⟩
  obtain ⟨r1, r2⟩ := ring_cnt f (by omega) (by omega) q (by omega)
  have e1 : (2 * (f : Int) + 1) = ((2 * f + 1 : Nat) : Int) := by omega
  have e2 : (2 * (f : Int) + 1).toNat = 2 * f + 1 := by omega
  unfold majB
  rw [hf]
  constructor
  · rw [e2, e1, Int.toNat_natCast, r1]; exact decide_eq_false (by omega)
  · have e3 : withB (ring (2 * (f : Int) + 1) q (f : Int).toNat) (((q : Int) + f) % (2 * f + 1)) = ring ((2 * f + 1 : Nat) : Int) q (f + 1) := by rw [e1, Int.toNat_natCast]; rfl
    rw [e3, e2, r2]; exact decide_eq_true (by omega)
theorem all_maj (c : Cfg) (h1 : 1 ≤ c.f) (h2 : c.f ≤ 3) : majB c (allB c) = true := by
  have h3 : c.f = 1 ∨ c.f = 2 ∨ c.f = 3 := by omega
  unfold majB allB
  rcases h3 with h | h | h <;> rw [h] <;> decide
theorem cnt_meet (s t : Nat) : ∀ n, cntTo s n + cntTo t n ≤ cntTo (s &&& t) n + n := by
  intro n
  induction n with
  | zero => simp [cntTo_zero]
  | succ n ih =>
    rw [cntTo_succ, cntTo_succ, cntTo_succ, Nat.testBit_and]
    cases s.testBit n <;> cases t.testBit n <;> simp <;> omega
theorem elems_pos {s n : Nat} (hn : n ≤ 32) (h : 1 ≤ cntTo (s &&& (2 ^ n - 1)) n) : ∃ x r, elems (s &&& (2 ^ n - 1)) = x :: r ∧ x < n ∧ s.testBit x = true := by
  have h1 := cnt_and (s &&& (2 ^ n - 1)) n 32 hn
  have h2 : (s &&& (2 ^ n - 1)) &&& (2 ^ n - 1) = s &&& (2 ^ n - 1) := by rw [Nat.and_assoc, Nat.and_self]
  rw [h2] at h1
  have h3 : (elems (s &&& (2 ^ n - 1))).length = cntTo (s &&& (2 ^ n - 1)) n := h1
  match e : elems (s &&& (2 ^ n - 1)) with
  | [] =>
    rw [e] at h3
    have h4 : 0 = cntTo (s &&& (2 ^ n - 1)) n := h3
    omega
  | x :: r =>
    refine ⟨x, r, rfl, ?_⟩
    have hm : x ∈ elems (s &&& (2 ^ n - 1)) := by rw [e]; exact List.mem_cons_self ..
    have hb := (mem_elems.1 hm).2
    rw [Nat.testBit_and, Nat.testBit_two_pow_sub_one, Bool.and_eq_true] at hb
    exact ⟨of_decide_eq_true hb.2, hb.1⟩
/-- Two majorities share a replica. -/
theorem meet_pure (c : Cfg) (s t : Nat) (h1 : 1 ≤ c.f) (h2 : c.f ≤ 3) (hs : majB c s = true) (ht : majB c t = true) :
    ∃ x : Nat, crossB (s &&& allB c) (t &&& allB c) = x ∧ (x : Int) < 2 * c.f + 1 ∧ hasB s x = true ∧ hasB t x = true := by
  unfold majB at hs ht
  have hs := of_decide_eq_true hs
  have ht := of_decide_eq_true ht
  obtain ⟨n, hn⟩ : ∃ n, (2 * c.f + 1).toNat = n := ⟨_, rfl⟩
  rw [hn] at hs ht
  have hm := cnt_meet s t n
  have e : (s &&& allB c) &&& (t &&& allB c) = (s &&& t) &&& (2 ^ n - 1) := by
    unfold allB; rw [hn]
    refine Nat.eq_of_testBit_eq fun i => ?_
    simp only [Nat.testBit_and]
    cases s.testBit i <;> cases t.testBit i <;> simp
  have hc : cntTo ((s &&& t) &&& (2 ^ n - 1)) n = cntTo (s &&& t) n := by
    have := cnt_and (s &&& t) n n (Nat.le_refl _)
    exact this
  obtain ⟨x, r, hx, hlt, hb⟩ := elems_pos (s := s &&& t) (n := n) (by omega) (by omega)
  rw [Nat.testBit_and, Bool.and_eq_true] at hb
  refine ⟨x, ?_, by omega, ?_, ?_⟩
  · unfold crossB; rw [e, hx]
  · rw [hasB_bit (by omega)]; exact hb.1
  · rw [hasB_bit (by omega)]; exact hb.2
theorem majority_is (b : Nat) (c : Cfg) (s : Nat) (v : Bool) (w : World) (hg : GrpAt w b c (2 * c.f + 1)) (h1 : 1 ≤ c.f) (h2 : c.f ≤ 3) (hs : s < 4294967296) (hT : Tab w) (hv : majB c s = v) :
    Calls Tryd.prog 19 #[.pointer (some ⟨b, 0, none⟩), .int .u32 s] w fun e w' => e = .returned (.bool v) ∧ Below w.heap.size w w' := hv ▸ majority_at b c s w hg h1 h2 hs hT
set_option maxRecDepth 100000 in
set_option maxHeartbeats 3200000 in
theorem meet_walk (c : Cfg) (s t q : Int) (w : World) (ok : c.Ok) (hT : Tab w) (hs : (Lit.int .u32 s).wf = true) (ht : (Lit.int .u32 t).wf = true) (hq : (Lit.int .i64 q).wf = true) :
    Calls Tryd.prog 4 #[.agg #[.int .i64 c.f, .int .i64 c.mb, .int .u64 c.dl, .int .u64 c.wd, .int .u64 c.ev, .int .u64 c.bt, .int .u64 c.ep, .int .u64 c.em, .int .u64 c.mn, .int .u64 c.ms], .int .u32 s, .int .u32 t, .int .i64 q] w fun e w' => e = .returned (.bool true) ∧ Below w.heap.size w w' := by
  obtain ⟨s, rfl⟩ : ∃ n : Nat, s = n := ⟨s.toNat, by have := (wf_u32 hs).1; omega⟩
  obtain ⟨t, rfl⟩ : ∃ n : Nat, t = n := ⟨t.toNat, by have := (wf_u32 ht).1; omega⟩
  have hs2 : s < 4294967296 := by have := (wf_u32 hs).2; omega
  have ht2 : t < 4294967296 := by have := (wf_u32 ht).2; omega
  have hq1 := (wf_i64 hq).1
  have hq2 := (wf_i64 hq).2
  have HT := Lib.hid hT
  clear hs ht hq hT
  go_enter Tryd.func4, Tryd.ntmps4
  go_wp2_with fail
  refine (lmade_any c _ ok).mono ?_
  rintro e wa (⟨hb, b, rfl, hlb, hg, hb_wa⟩ | ⟨hb, rfl, hb_wa⟩)
  · obtain ⟨⟨f1, f2⟩, _⟩ := Cfg.valid hb
    replace hb := Lib.hid hb
    have HG := Lib.hid hg
    clear hg hlb
    have hc_wa := (bcell hb_wa).1
    have hf_wa := (bcell hb_wa).2
    have hz_wa_0 : w.heap.size < wa.heap.size := by have h_ := hb_wa.size; (try simp at h_); omega
    go_wp2_with fail
    refine (nodes_at b _ _ HG.out.nodes (by omega)).mono ?_
    rintro e w1 ⟨rfl, rfl⟩
    by_cases h0 : q < 0
    · go_wp2
      have HP : (0 : Int) ≤ 0 ∧ (0 : Int) < 2 * c.f + 1 := by omega
      go_loop [11, 13] (fun v i => ∃ k : Nat, (k : Int) ≤ c.f ∧ i = .int .i64 k ∧ v = .int .u32 (ring (2 * c.f + 1) 0 k : Nat)) (fun _ i => (c.f - intOf i).toNat)
      case atStart => exact ⟨0, by omega, rfl, rfl⟩
      case round =>
        obtain ⟨k, hk, rfl, rfl⟩ := hrel
        by_cases hlt : (k : Int) < c.f
        · go_wp2_with fail
          (with_reducible refine (with_any _ _ _ (ring_lt _ _ k)).mono ?_)
          rintro e w1 ⟨rfl, rfl⟩
          go_wp2
          go_round
          case rel => exact ⟨k + 1, by omega, by go_num, by simp only [ring, Int.zero_add]⟩
          case measure => simp [intOf]; omega
        · have hke : k = c.f.toNat := by omega
          have hkf : (k : Int) = c.f := by omega
          obtain ⟨m1, m2⟩ := ring_maj c 0 f1 f2 HP.1 HP.2
          rw [← hke] at m1 m2
          have hlt2 := ring_lt (2 * c.f + 1) 0 k
          generalize ring (2 * c.f + 1) 0 k = some1 at *
          have m3 := all_maj c f1 f2
          have m1 := Lib.hid m1
          have m2 := Lib.hid m2
          have m3 := Lib.hid m3
          (try simp only [Int.zero_add] at m2)
          clear hke hkf hk
          go_wp2_with fail
          refine (majority_is b c some1 false _ ?_ f1 f2 hlt2 ?_ m1.out).mono ?_
          · exact HG.out.below HG.out.lt (by repeat (first | with_reducible refine Below.drew ?_ | with_reducible refine below_drewN ?_ | with_reducible refine Below.alloc_ ?_ _ | with_reducible refine Below.setCell ?_ (by first | (simp; done) | (simp; omega)) _ | with_reducible exact Below.refl _ _ ))
          · exact HT.out.below (Nat.le_refl _) (by repeat (first | with_reducible refine Below.drew ?_ | with_reducible refine below_drewN ?_ | with_reducible refine Below.alloc_ ?_ _ | with_reducible refine Below.setCell ?_ (by first | (simp; done) | (simp; omega)) _ | with_reducible exact Below.refl _ _ | with_reducible exact hb_wa | with_reducible refine Below.on ?_ hb_wa ))
          rintro e wb ⟨rfl, hb_wb⟩
          have hc_wb := (bcell hb_wb).1
          have hf_wb := (bcell hb_wb).2
          have hz_wb_0 : w.heap.size < wb.heap.size := by have h_ := hb_wb.size; (try simp at h_); omega
          go_wp2_with fail
          (with_reducible refine (with_any _ _ _ hlt2).mono ?_)
          rintro e w1 ⟨rfl, rfl⟩
          go_wp2_with fail
          refine (majority_is b c _ true _ ?_ f1 f2 (withB_lt _ hlt2) ?_ m2.out).mono ?_
          · exact HG.out.below HG.out.lt (by repeat (first | with_reducible refine Below.drew ?_ | with_reducible refine below_drewN ?_ | with_reducible refine Below.alloc_ ?_ _ | with_reducible refine Below.setCell ?_ (by first | (simp; done) | (simp; omega)) _ | with_reducible exact Below.refl _ _ | with_reducible exact hb_wb | with_reducible refine Below.on ?_ hb_wb ))
          · exact HT.out.below (Nat.le_refl _) (by repeat (first | with_reducible refine Below.drew ?_ | with_reducible refine below_drewN ?_ | with_reducible refine Below.alloc_ ?_ _ | with_reducible refine Below.setCell ?_ (by first | (simp; done) | (simp; omega)) _ | with_reducible exact Below.refl _ _ | with_reducible exact hb_wa | with_reducible refine Below.on ?_ hb_wa | with_reducible exact hb_wb | with_reducible refine Below.on ?_ hb_wb ))
          rintro e wc ⟨rfl, hb_wc⟩
          have hc_wc := (bcell hb_wc).1
          have hf_wc := (bcell hb_wc).2
          have hz_wc_0 : w.heap.size < wc.heap.size := by have h_ := hb_wc.size; (try simp at h_); omega
          go_wp2_with fail
          refine (all_at b c _ (HG.out.below HG.out.lt (by repeat (first | with_reducible refine Below.drew ?_ | with_reducible refine below_drewN ?_ | with_reducible refine Below.alloc_ ?_ _ | with_reducible refine Below.setCell ?_ (by first | (simp; done) | (simp; omega)) _ | with_reducible exact Below.refl _ _ | with_reducible exact hb_wb | with_reducible refine Below.on ?_ hb_wb | with_reducible exact hb_wc | with_reducible refine Below.on ?_ hb_wc ))).nodes f1 f2).mono ?_
          rintro e w1 ⟨rfl, rfl⟩
          go_wp2_with fail
          refine (majority_is b c _ true _ ?_ f1 f2 (allB_lt f1 f2) ?_ m3.out).mono ?_
          · exact HG.out.below HG.out.lt (by repeat (first | with_reducible refine Below.drew ?_ | with_reducible refine below_drewN ?_ | with_reducible refine Below.alloc_ ?_ _ | with_reducible refine Below.setCell ?_ (by first | (simp; done) | (simp; omega)) _ | with_reducible exact Below.refl _ _ | with_reducible exact hb_wb | with_reducible refine Below.on ?_ hb_wb | with_reducible exact hb_wc | with_reducible refine Below.on ?_ hb_wc ))
          · exact HT.out.below (Nat.le_refl _) (by repeat (first | with_reducible refine Below.drew ?_ | with_reducible refine below_drewN ?_ | with_reducible refine Below.alloc_ ?_ _ | with_reducible refine Below.setCell ?_ (by first | (simp; done) | (simp; omega)) _ | with_reducible exact Below.refl _ _ | with_reducible exact hb_wa | with_reducible refine Below.on ?_ hb_wa | with_reducible exact hb_wb | with_reducible refine Below.on ?_ hb_wb | with_reducible exact hb_wc | with_reducible refine Below.on ?_ hb_wc ))
          rintro e wd ⟨rfl, hb_wd⟩
          have hc_wd := (bcell hb_wd).1
          have hf_wd := (bcell hb_wd).2
          have hz_wd_0 : w.heap.size < wd.heap.size := by have h_ := hb_wd.size; (try simp at h_); omega
          by_cases hS : majB c s = true
          · by_cases hM : majB c t = true
            · obtain ⟨x, x1, x2, x3, x4⟩ := meet_pure c s t f1 f2 hS hM
              have hS := Lib.hid hS
              have hM := Lib.hid hM
              have x1 := Lib.hid x1
              have x3 := Lib.hid x3
              have x4 := Lib.hid x4
              have ha1 := and_u32 s (allB c) hs2 (allB_lt f1 f2)
              have ha2 := and_u32 t (allB c) ht2 (allB_lt f1 f2)
              go_wp2_with fail
              refine (majority_is b c _ true _ ?_ f1 f2 hs2 ?_ hS.out).mono ?_
              · exact HG.out.below HG.out.lt (by repeat (first | with_reducible refine Below.drew ?_ | with_reducible refine below_drewN ?_ | with_reducible refine Below.alloc_ ?_ _ | with_reducible refine Below.setCell ?_ (by first | (simp; done) | (simp; omega)) _ | with_reducible exact Below.refl _ _ | with_reducible exact hb_wb | with_reducible refine Below.on ?_ hb_wb | with_reducible exact hb_wc | with_reducible refine Below.on ?_ hb_wc | with_reducible exact hb_wd | with_reducible refine Below.on ?_ hb_wd ))
              · exact HT.out.below (Nat.le_refl _) (by repeat (first | with_reducible refine Below.drew ?_ | with_reducible refine below_drewN ?_ | with_reducible refine Below.alloc_ ?_ _ | with_reducible refine Below.setCell ?_ (by first | (simp; done) | (simp; omega)) _ | with_reducible exact Below.refl _ _ | with_reducible exact hb_wa | with_reducible refine Below.on ?_ hb_wa | with_reducible exact hb_wb | with_reducible refine Below.on ?_ hb_wb | with_reducible exact hb_wc | with_reducible refine Below.on ?_ hb_wc | with_reducible exact hb_wd | with_reducible refine Below.on ?_ hb_wd ))
              rintro e we ⟨rfl, hb_we⟩
              have hc_we := (bcell hb_we).1
              have hf_we := (bcell hb_we).2
              have hz_we_0 : w.heap.size < we.heap.size := by have h_ := hb_we.size; (try simp at h_); omega
              go_wp2_with fail
              refine (majority_is b c _ true _ ?_ f1 f2 ht2 ?_ hM.out).mono ?_
              · exact HG.out.below HG.out.lt (by repeat (first | with_reducible refine Below.drew ?_ | with_reducible refine below_drewN ?_ | with_reducible refine Below.alloc_ ?_ _ | with_reducible refine Below.setCell ?_ (by first | (simp; done) | (simp; omega)) _ | with_reducible exact Below.refl _ _ | with_reducible exact hb_wb | with_reducible refine Below.on ?_ hb_wb | with_reducible exact hb_wc | with_reducible refine Below.on ?_ hb_wc | with_reducible exact hb_wd | with_reducible refine Below.on ?_ hb_wd | with_reducible exact hb_we | with_reducible refine Below.on ?_ hb_we ))
              · exact HT.out.below (Nat.le_refl _) (by repeat (first | with_reducible refine Below.drew ?_ | with_reducible refine below_drewN ?_ | with_reducible refine Below.alloc_ ?_ _ | with_reducible refine Below.setCell ?_ (by first | (simp; done) | (simp; omega)) _ | with_reducible exact Below.refl _ _ | with_reducible exact hb_wa | with_reducible refine Below.on ?_ hb_wa | with_reducible exact hb_wb | with_reducible refine Below.on ?_ hb_wb | with_reducible exact hb_wc | with_reducible refine Below.on ?_ hb_wc | with_reducible exact hb_wd | with_reducible refine Below.on ?_ hb_wd | with_reducible exact hb_we | with_reducible refine Below.on ?_ hb_we ))
              rintro e wf ⟨rfl, hb_wf⟩
              have hc_wf := (bcell hb_wf).1
              have hf_wf := (bcell hb_wf).2
              have hz_wf_0 : w.heap.size < wf.heap.size := by have h_ := hb_wf.size; (try simp at h_); omega
              go_wp2_with fail
              refine (all_at b c _ (HG.out.below HG.out.lt (by repeat (first | with_reducible refine Below.drew ?_ | with_reducible refine below_drewN ?_ | with_reducible refine Below.alloc_ ?_ _ | with_reducible refine Below.setCell ?_ (by first | (simp; done) | (simp; omega)) _ | with_reducible exact Below.refl _ _ | with_reducible exact hb_wb | with_reducible refine Below.on ?_ hb_wb | with_reducible exact hb_wc | with_reducible refine Below.on ?_ hb_wc | with_reducible exact hb_wd | with_reducible refine Below.on ?_ hb_wd | with_reducible exact hb_we | with_reducible refine Below.on ?_ hb_we | with_reducible exact hb_wf | with_reducible refine Below.on ?_ hb_wf ))).nodes f1 f2).mono ?_
              rintro e w1 ⟨rfl, rfl⟩
              go_wp2_with fail
              refine (all_at b c _ (HG.out.below HG.out.lt (by repeat (first | with_reducible refine Below.drew ?_ | with_reducible refine below_drewN ?_ | with_reducible refine Below.alloc_ ?_ _ | with_reducible refine Below.setCell ?_ (by first | (simp; done) | (simp; omega)) _ | with_reducible exact Below.refl _ _ | with_reducible exact hb_wb | with_reducible refine Below.on ?_ hb_wb | with_reducible exact hb_wc | with_reducible refine Below.on ?_ hb_wc | with_reducible exact hb_wd | with_reducible refine Below.on ?_ hb_wd | with_reducible exact hb_we | with_reducible refine Below.on ?_ hb_we | with_reducible exact hb_wf | with_reducible refine Below.on ?_ hb_wf ))).nodes f1 f2).mono ?_
              rintro e w1 ⟨rfl, rfl⟩
              go_wp2_with fail
              refine (cross_any (s &&& allB c) (t &&& allB c) _ (and_lt _ hs2) (and_lt _ ht2) ?_).mono ?_
              · exact HT.out.below (Nat.le_refl _) (by repeat (first | with_reducible refine Below.drew ?_ | with_reducible refine below_drewN ?_ | with_reducible refine Below.alloc_ ?_ _ | with_reducible refine Below.setCell ?_ (by first | (simp; done) | (simp; omega)) _ | with_reducible exact Below.refl _ _ | with_reducible exact hb_wa | with_reducible refine Below.on ?_ hb_wa | with_reducible exact hb_wb | with_reducible refine Below.on ?_ hb_wb | with_reducible exact hb_wc | with_reducible refine Below.on ?_ hb_wc | with_reducible exact hb_wd | with_reducible refine Below.on ?_ hb_wd | with_reducible exact hb_we | with_reducible refine Below.on ?_ hb_we | with_reducible exact hb_wf | with_reducible refine Below.on ?_ hb_wf ))
              rintro e wg ⟨rfl, hb_wg⟩
              rw [x1.out]
              have hc_wg := (bcell hb_wg).1
              have hf_wg := (bcell hb_wg).2
              have hz_wg_0 : w.heap.size < wg.heap.size := by have h_ := hb_wg.size; (try simp at h_); omega
              have A1 := has_any s x wg hs2
              have A2 := has_any t x wg ht2
              rw [x3.out] at A1
              rw [x4.out] at A2
              have A1 := Lib.hid A1
              have A2 := Lib.hid A2
              go_wp2_with fail
              refine A1.out.mono ?_
              rintro e w1 ⟨rfl, rfl⟩
              go_wp2_with fail
              refine A2.out.mono ?_
              rintro e w1 ⟨rfl, rfl⟩
              go_wp2
              go_ret
              exact ⟨by simp, (by repeat (first | with_reducible refine Below.drew ?_ | with_reducible refine below_drewN ?_ | with_reducible refine Below.alloc_ ?_ _ | with_reducible refine Below.setCell ?_ (by first | (simp; done) | (simp; omega)) _ | with_reducible exact Below.refl _ _ | with_reducible exact hb_wa | with_reducible refine Below.on ?_ hb_wa | with_reducible exact hb_wb | with_reducible refine Below.on ?_ hb_wb | with_reducible exact hb_wc | with_reducible refine Below.on ?_ hb_wc | with_reducible exact hb_wd | with_reducible refine Below.on ?_ hb_wd | with_reducible exact hb_we | with_reducible refine Below.on ?_ hb_we | with_reducible exact hb_wf | with_reducible refine Below.on ?_ hb_wf | with_reducible exact hb_wg | with_reducible refine Below.on ?_ hb_wg ))⟩
            · have hM := Lib.hid (by simpa using hM : majB c t = false)
              have hS := Lib.hid hS
              go_wp2_with fail
              refine (majority_is b c _ true _ ?_ f1 f2 hs2 ?_ hS.out).mono ?_
              · exact HG.out.below HG.out.lt (by repeat (first | with_reducible refine Below.drew ?_ | with_reducible refine below_drewN ?_ | with_reducible refine Below.alloc_ ?_ _ | with_reducible refine Below.setCell ?_ (by first | (simp; done) | (simp; omega)) _ | with_reducible exact Below.refl _ _ | with_reducible exact hb_wb | with_reducible refine Below.on ?_ hb_wb | with_reducible exact hb_wc | with_reducible refine Below.on ?_ hb_wc | with_reducible exact hb_wd | with_reducible refine Below.on ?_ hb_wd ))
              · exact HT.out.below (Nat.le_refl _) (by repeat (first | with_reducible refine Below.drew ?_ | with_reducible refine below_drewN ?_ | with_reducible refine Below.alloc_ ?_ _ | with_reducible refine Below.setCell ?_ (by first | (simp; done) | (simp; omega)) _ | with_reducible exact Below.refl _ _ | with_reducible exact hb_wa | with_reducible refine Below.on ?_ hb_wa | with_reducible exact hb_wb | with_reducible refine Below.on ?_ hb_wb | with_reducible exact hb_wc | with_reducible refine Below.on ?_ hb_wc | with_reducible exact hb_wd | with_reducible refine Below.on ?_ hb_wd ))
              rintro e we ⟨rfl, hb_we⟩
              have hc_we := (bcell hb_we).1
              have hf_we := (bcell hb_we).2
              have hz_we_0 : w.heap.size < we.heap.size := by have h_ := hb_we.size; (try simp at h_); omega
              go_wp2_with fail
              refine (majority_is b c _ false _ ?_ f1 f2 ht2 ?_ hM.out).mono ?_
              · exact HG.out.below HG.out.lt (by repeat (first | with_reducible refine Below.drew ?_ | with_reducible refine below_drewN ?_ | with_reducible refine Below.alloc_ ?_ _ | with_reducible refine Below.setCell ?_ (by first | (simp; done) | (simp; omega)) _ | with_reducible exact Below.refl _ _ | with_reducible exact hb_wb | with_reducible refine Below.on ?_ hb_wb | with_reducible exact hb_wc | with_reducible refine Below.on ?_ hb_wc | with_reducible exact hb_wd | with_reducible refine Below.on ?_ hb_wd | with_reducible exact hb_we | with_reducible refine Below.on ?_ hb_we ))
              · exact HT.out.below (Nat.le_refl _) (by repeat (first | with_reducible refine Below.drew ?_ | with_reducible refine below_drewN ?_ | with_reducible refine Below.alloc_ ?_ _ | with_reducible refine Below.setCell ?_ (by first | (simp; done) | (simp; omega)) _ | with_reducible exact Below.refl _ _ | with_reducible exact hb_wa | with_reducible refine Below.on ?_ hb_wa | with_reducible exact hb_wb | with_reducible refine Below.on ?_ hb_wb | with_reducible exact hb_wc | with_reducible refine Below.on ?_ hb_wc | with_reducible exact hb_wd | with_reducible refine Below.on ?_ hb_wd | with_reducible exact hb_we | with_reducible refine Below.on ?_ hb_we ))
              rintro e wf ⟨rfl, hb_wf⟩
              have hc_wf := (bcell hb_wf).1
              have hf_wf := (bcell hb_wf).2
              go_wp2
              go_ret
              exact ⟨by simp, (by repeat (first | with_reducible refine Below.drew ?_ | with_reducible refine below_drewN ?_ | with_reducible refine Below.alloc_ ?_ _ | with_reducible refine Below.setCell ?_ (by first | (simp; done) | (simp; omega)) _ | with_reducible exact Below.refl _ _ | with_reducible exact hb_wa | with_reducible refine Below.on ?_ hb_wa | with_reducible exact hb_wb | with_reducible refine Below.on ?_ hb_wb | with_reducible exact hb_wc | with_reducible refine Below.on ?_ hb_wc | with_reducible exact hb_wd | with_reducible refine Below.on ?_ hb_wd | with_reducible exact hb_we | with_reducible refine Below.on ?_ hb_we | with_reducible exact hb_wf | with_reducible refine Below.on ?_ hb_wf ))⟩
          · have hS := Lib.hid (by simpa using hS : majB c s = false)
            go_wp2_with fail
            refine (majority_is b c _ false _ ?_ f1 f2 hs2 ?_ hS.out).mono ?_
            · exact HG.out.below HG.out.lt (by repeat (first | with_reducible refine Below.drew ?_ | with_reducible refine below_drewN ?_ | with_reducible refine Below.alloc_ ?_ _ | with_reducible refine Below.setCell ?_ (by first | (simp; done) | (simp; omega)) _ | with_reducible exact Below.refl _ _ | with_reducible exact hb_wb | with_reducible refine Below.on ?_ hb_wb | with_reducible exact hb_wc | with_reducible refine Below.on ?_ hb_wc | with_reducible exact hb_wd | with_reducible refine Below.on ?_ hb_wd ))
            · exact HT.out.below (Nat.le_refl _) (by repeat (first | with_reducible refine Below.drew ?_ | with_reducible refine below_drewN ?_ | with_reducible refine Below.alloc_ ?_ _ | with_reducible refine Below.setCell ?_ (by first | (simp; done) | (simp; omega)) _ | with_reducible exact Below.refl _ _ | with_reducible exact hb_wa | with_reducible refine Below.on ?_ hb_wa | with_reducible exact hb_wb | with_reducible refine Below.on ?_ hb_wb | with_reducible exact hb_wc | with_reducible refine Below.on ?_ hb_wc | with_reducible exact hb_wd | with_reducible refine Below.on ?_ hb_wd ))
            rintro e we ⟨rfl, hb_we⟩
            have hc_we := (bcell hb_we).1
            have hf_we := (bcell hb_we).2
            go_wp2
            go_ret
            exact ⟨by simp, (by repeat (first | with_reducible refine Below.drew ?_ | with_reducible refine below_drewN ?_ | with_reducible refine Below.alloc_ ?_ _ | with_reducible refine Below.setCell ?_ (by first | (simp; done) | (simp; omega)) _ | with_reducible exact Below.refl _ _ | with_reducible exact hb_wa | with_reducible refine Below.on ?_ hb_wa | with_reducible exact hb_wb | with_reducible refine Below.on ?_ hb_wb | with_reducible exact hb_wc | with_reducible refine Below.on ?_ hb_wc | with_reducible exact hb_wd | with_reducible refine Below.on ?_ hb_wd | with_reducible exact hb_we | with_reducible refine Below.on ?_ hb_we ))⟩
    · by_cases h3 : 2 * c.f + 1 ≤ q
      · go_wp2
        have HP : (0 : Int) ≤ 0 ∧ (0 : Int) < 2 * c.f + 1 := by omega
        go_loop [11, 13] (fun v i => ∃ k : Nat, (k : Int) ≤ c.f ∧ i = .int .i64 k ∧ v = .int .u32 (ring (2 * c.f + 1) 0 k : Nat)) (fun _ i => (c.f - intOf i).toNat)
        case atStart => exact ⟨0, by omega, rfl, rfl⟩
        case round =>
          obtain ⟨k, hk, rfl, rfl⟩ := hrel
          by_cases hlt : (k : Int) < c.f
          · go_wp2_with fail
            (with_reducible refine (with_any _ _ _ (ring_lt _ _ k)).mono ?_)
            rintro e w1 ⟨rfl, rfl⟩
            go_wp2
            go_round
            case rel => exact ⟨k + 1, by omega, by go_num, by simp only [ring, Int.zero_add]⟩
            case measure => simp [intOf]; omega
          · have hke : k = c.f.toNat := by omega
            have hkf : (k : Int) = c.f := by omega
            obtain ⟨m1, m2⟩ := ring_maj c 0 f1 f2 HP.1 HP.2
            rw [← hke] at m1 m2
            have hlt2 := ring_lt (2 * c.f + 1) 0 k
            generalize ring (2 * c.f + 1) 0 k = some1 at *
            have m3 := all_maj c f1 f2
            have m1 := Lib.hid m1
            have m2 := Lib.hid m2
            have m3 := Lib.hid m3
            (try simp only [Int.zero_add] at m2)
            clear hke hkf hk
            go_wp2_with fail
            refine (majority_is b c some1 false _ ?_ f1 f2 hlt2 ?_ m1.out).mono ?_
            · exact HG.out.below HG.out.lt (by repeat (first | with_reducible refine Below.drew ?_ | with_reducible refine below_drewN ?_ | with_reducible refine Below.alloc_ ?_ _ | with_reducible refine Below.setCell ?_ (by first | (simp; done) | (simp; omega)) _ | with_reducible exact Below.refl _ _ ))
            · exact HT.out.below (Nat.le_refl _) (by repeat (first | with_reducible refine Below.drew ?_ | with_reducible refine below_drewN ?_ | with_reducible refine Below.alloc_ ?_ _ | with_reducible refine Below.setCell ?_ (by first | (simp; done) | (simp; omega)) _ | with_reducible exact Below.refl _ _ | with_reducible exact hb_wa | with_reducible refine Below.on ?_ hb_wa ))
            rintro e wb ⟨rfl, hb_wb⟩
            have hc_wb := (bcell hb_wb).1
            have hf_wb := (bcell hb_wb).2
            have hz_wb_0 : w.heap.size < wb.heap.size := by have h_ := hb_wb.size; (try simp at h_); omega
            go_wp2_with fail
            (with_reducible refine (with_any _ _ _ hlt2).mono ?_)
            rintro e w1 ⟨rfl, rfl⟩
            go_wp2_with fail
            refine (majority_is b c _ true _ ?_ f1 f2 (withB_lt _ hlt2) ?_ m2.out).mono ?_
            · exact HG.out.below HG.out.lt (by repeat (first | with_reducible refine Below.drew ?_ | with_reducible refine below_drewN ?_ | with_reducible refine Below.alloc_ ?_ _ | with_reducible refine Below.setCell ?_ (by first | (simp; done) | (simp; omega)) _ | with_reducible exact Below.refl _ _ | with_reducible exact hb_wb | with_reducible refine Below.on ?_ hb_wb ))
            · exact HT.out.below (Nat.le_refl _) (by repeat (first | with_reducible refine Below.drew ?_ | with_reducible refine below_drewN ?_ | with_reducible refine Below.alloc_ ?_ _ | with_reducible refine Below.setCell ?_ (by first | (simp; done) | (simp; omega)) _ | with_reducible exact Below.refl _ _ | with_reducible exact hb_wa | with_reducible refine Below.on ?_ hb_wa | with_reducible exact hb_wb | with_reducible refine Below.on ?_ hb_wb ))
            rintro e wc ⟨rfl, hb_wc⟩
            have hc_wc := (bcell hb_wc).1
            have hf_wc := (bcell hb_wc).2
            have hz_wc_0 : w.heap.size < wc.heap.size := by have h_ := hb_wc.size; (try simp at h_); omega
            go_wp2_with fail
            refine (all_at b c _ (HG.out.below HG.out.lt (by repeat (first | with_reducible refine Below.drew ?_ | with_reducible refine below_drewN ?_ | with_reducible refine Below.alloc_ ?_ _ | with_reducible refine Below.setCell ?_ (by first | (simp; done) | (simp; omega)) _ | with_reducible exact Below.refl _ _ | with_reducible exact hb_wb | with_reducible refine Below.on ?_ hb_wb | with_reducible exact hb_wc | with_reducible refine Below.on ?_ hb_wc ))).nodes f1 f2).mono ?_
            rintro e w1 ⟨rfl, rfl⟩
            go_wp2_with fail
            refine (majority_is b c _ true _ ?_ f1 f2 (allB_lt f1 f2) ?_ m3.out).mono ?_
            · exact HG.out.below HG.out.lt (by repeat (first | with_reducible refine Below.drew ?_ | with_reducible refine below_drewN ?_ | with_reducible refine Below.alloc_ ?_ _ | with_reducible refine Below.setCell ?_ (by first | (simp; done) | (simp; omega)) _ | with_reducible exact Below.refl _ _ | with_reducible exact hb_wb | with_reducible refine Below.on ?_ hb_wb | with_reducible exact hb_wc | with_reducible refine Below.on ?_ hb_wc ))
            · exact HT.out.below (Nat.le_refl _) (by repeat (first | with_reducible refine Below.drew ?_ | with_reducible refine below_drewN ?_ | with_reducible refine Below.alloc_ ?_ _ | with_reducible refine Below.setCell ?_ (by first | (simp; done) | (simp; omega)) _ | with_reducible exact Below.refl _ _ | with_reducible exact hb_wa | with_reducible refine Below.on ?_ hb_wa | with_reducible exact hb_wb | with_reducible refine Below.on ?_ hb_wb | with_reducible exact hb_wc | with_reducible refine Below.on ?_ hb_wc ))
            rintro e wd ⟨rfl, hb_wd⟩
            have hc_wd := (bcell hb_wd).1
            have hf_wd := (bcell hb_wd).2
            have hz_wd_0 : w.heap.size < wd.heap.size := by have h_ := hb_wd.size; (try simp at h_); omega
            by_cases hS : majB c s = true
            · by_cases hM : majB c t = true
              · obtain ⟨x, x1, x2, x3, x4⟩ := meet_pure c s t f1 f2 hS hM
                have hS := Lib.hid hS
                have hM := Lib.hid hM
                have x1 := Lib.hid x1
                have x3 := Lib.hid x3
                have x4 := Lib.hid x4
                have ha1 := and_u32 s (allB c) hs2 (allB_lt f1 f2)
                have ha2 := and_u32 t (allB c) ht2 (allB_lt f1 f2)
                go_wp2_with fail
                refine (majority_is b c _ true _ ?_ f1 f2 hs2 ?_ hS.out).mono ?_
                · exact HG.out.below HG.out.lt (by repeat (first | with_reducible refine Below.drew ?_ | with_reducible refine below_drewN ?_ | with_reducible refine Below.alloc_ ?_ _ | with_reducible refine Below.setCell ?_ (by first | (simp; done) | (simp; omega)) _ | with_reducible exact Below.refl _ _ | with_reducible exact hb_wb | with_reducible refine Below.on ?_ hb_wb | with_reducible exact hb_wc | with_reducible refine Below.on ?_ hb_wc | with_reducible exact hb_wd | with_reducible refine Below.on ?_ hb_wd ))
                · exact HT.out.below (Nat.le_refl _) (by repeat (first | with_reducible refine Below.drew ?_ | with_reducible refine below_drewN ?_ | with_reducible refine Below.alloc_ ?_ _ | with_reducible refine Below.setCell ?_ (by first | (simp; done) | (simp; omega)) _ | with_reducible exact Below.refl _ _ | with_reducible exact hb_wa | with_reducible refine Below.on ?_ hb_wa | with_reducible exact hb_wb | with_reducible refine Below.on ?_ hb_wb | with_reducible exact hb_wc | with_reducible refine Below.on ?_ hb_wc | with_reducible exact hb_wd | with_reducible refine Below.on ?_ hb_wd ))
                rintro e we ⟨rfl, hb_we⟩
                have hc_we := (bcell hb_we).1
                have hf_we := (bcell hb_we).2
                have hz_we_0 : w.heap.size < we.heap.size := by have h_ := hb_we.size; (try simp at h_); omega
                go_wp2_with fail
                refine (majority_is b c _ true _ ?_ f1 f2 ht2 ?_ hM.out).mono ?_
                · exact HG.out.below HG.out.lt (by repeat (first | with_reducible refine Below.drew ?_ | with_reducible refine below_drewN ?_ | with_reducible refine Below.alloc_ ?_ _ | with_reducible refine Below.setCell ?_ (by first | (simp; done) | (simp; omega)) _ | with_reducible exact Below.refl _ _ | with_reducible exact hb_wb | with_reducible refine Below.on ?_ hb_wb | with_reducible exact hb_wc | with_reducible refine Below.on ?_ hb_wc | with_reducible exact hb_wd | with_reducible refine Below.on ?_ hb_wd | with_reducible exact hb_we | with_reducible refine Below.on ?_ hb_we ))
                · exact HT.out.below (Nat.le_refl _) (by repeat (first | with_reducible refine Below.drew ?_ | with_reducible refine below_drewN ?_ | with_reducible refine Below.alloc_ ?_ _ | with_reducible refine Below.setCell ?_ (by first | (simp; done) | (simp; omega)) _ | with_reducible exact Below.refl _ _ | with_reducible exact hb_wa | with_reducible refine Below.on ?_ hb_wa | with_reducible exact hb_wb | with_reducible refine Below.on ?_ hb_wb | with_reducible exact hb_wc | with_reducible refine Below.on ?_ hb_wc | with_reducible exact hb_wd | with_reducible refine Below.on ?_ hb_wd | with_reducible exact hb_we | with_reducible refine Below.on ?_ hb_we ))
                rintro e wf ⟨rfl, hb_wf⟩
                have hc_wf := (bcell hb_wf).1
                have hf_wf := (bcell hb_wf).2
                have hz_wf_0 : w.heap.size < wf.heap.size := by have h_ := hb_wf.size; (try simp at h_); omega
                go_wp2_with fail
                refine (all_at b c _ (HG.out.below HG.out.lt (by repeat (first | with_reducible refine Below.drew ?_ | with_reducible refine below_drewN ?_ | with_reducible refine Below.alloc_ ?_ _ | with_reducible refine Below.setCell ?_ (by first | (simp; done) | (simp; omega)) _ | with_reducible exact Below.refl _ _ | with_reducible exact hb_wb | with_reducible refine Below.on ?_ hb_wb | with_reducible exact hb_wc | with_reducible refine Below.on ?_ hb_wc | with_reducible exact hb_wd | with_reducible refine Below.on ?_ hb_wd | with_reducible exact hb_we | with_reducible refine Below.on ?_ hb_we | with_reducible exact hb_wf | with_reducible refine Below.on ?_ hb_wf ))).nodes f1 f2).mono ?_
                rintro e w1 ⟨rfl, rfl⟩
                go_wp2_with fail
                refine (all_at b c _ (HG.out.below HG.out.lt (by repeat (first | with_reducible refine Below.drew ?_ | with_reducible refine below_drewN ?_ | with_reducible refine Below.alloc_ ?_ _ | with_reducible refine Below.setCell ?_ (by first | (simp; done) | (simp; omega)) _ | with_reducible exact Below.refl _ _ | with_reducible exact hb_wb | with_reducible refine Below.on ?_ hb_wb | with_reducible exact hb_wc | with_reducible refine Below.on ?_ hb_wc | with_reducible exact hb_wd | with_reducible refine Below.on ?_ hb_wd | with_reducible exact hb_we | with_reducible refine Below.on ?_ hb_we | with_reducible exact hb_wf | with_reducible refine Below.on ?_ hb_wf ))).nodes f1 f2).mono ?_
                rintro e w1 ⟨rfl, rfl⟩
                go_wp2_with fail
                refine (cross_any (s &&& allB c) (t &&& allB c) _ (and_lt _ hs2) (and_lt _ ht2) ?_).mono ?_
                · exact HT.out.below (Nat.le_refl _) (by repeat (first | with_reducible refine Below.drew ?_ | with_reducible refine below_drewN ?_ | with_reducible refine Below.alloc_ ?_ _ | with_reducible refine Below.setCell ?_ (by first | (simp; done) | (simp; omega)) _ | with_reducible exact Below.refl _ _ | with_reducible exact hb_wa | with_reducible refine Below.on ?_ hb_wa | with_reducible exact hb_wb | with_reducible refine Below.on ?_ hb_wb | with_reducible exact hb_wc | with_reducible refine Below.on ?_ hb_wc | with_reducible exact hb_wd | with_reducible refine Below.on ?_ hb_wd | with_reducible exact hb_we | with_reducible refine Below.on ?_ hb_we | with_reducible exact hb_wf | with_reducible refine Below.on ?_ hb_wf ))
                rintro e wg ⟨rfl, hb_wg⟩
                rw [x1.out]
                have hc_wg := (bcell hb_wg).1
                have hf_wg := (bcell hb_wg).2
                have hz_wg_0 : w.heap.size < wg.heap.size := by have h_ := hb_wg.size; (try simp at h_); omega
                have A1 := has_any s x wg hs2
                have A2 := has_any t x wg ht2
                rw [x3.out] at A1
                rw [x4.out] at A2
                have A1 := Lib.hid A1
                have A2 := Lib.hid A2
                go_wp2_with fail
                refine A1.out.mono ?_
                rintro e w1 ⟨rfl, rfl⟩
                go_wp2_with fail
                refine A2.out.mono ?_
                rintro e w1 ⟨rfl, rfl⟩
                go_wp2
                go_ret
                exact ⟨by simp, (by repeat (first | with_reducible refine Below.drew ?_ | with_reducible refine below_drewN ?_ | with_reducible refine Below.alloc_ ?_ _ | with_reducible refine Below.setCell ?_ (by first | (simp; done) | (simp; omega)) _ | with_reducible exact Below.refl _ _ | with_reducible exact hb_wa | with_reducible refine Below.on ?_ hb_wa | with_reducible exact hb_wb | with_reducible refine Below.on ?_ hb_wb | with_reducible exact hb_wc | with_reducible refine Below.on ?_ hb_wc | with_reducible exact hb_wd | with_reducible refine Below.on ?_ hb_wd | with_reducible exact hb_we | with_reducible refine Below.on ?_ hb_we | with_reducible exact hb_wf | with_reducible refine Below.on ?_ hb_wf | with_reducible exact hb_wg | with_reducible refine Below.on ?_ hb_wg ))⟩
              · have hM := Lib.hid (by simpa using hM : majB c t = false)
                have hS := Lib.hid hS
                go_wp2_with fail
                refine (majority_is b c _ true _ ?_ f1 f2 hs2 ?_ hS.out).mono ?_
                · exact HG.out.below HG.out.lt (by repeat (first | with_reducible refine Below.drew ?_ | with_reducible refine below_drewN ?_ | with_reducible refine Below.alloc_ ?_ _ | with_reducible refine Below.setCell ?_ (by first | (simp; done) | (simp; omega)) _ | with_reducible exact Below.refl _ _ | with_reducible exact hb_wb | with_reducible refine Below.on ?_ hb_wb | with_reducible exact hb_wc | with_reducible refine Below.on ?_ hb_wc | with_reducible exact hb_wd | with_reducible refine Below.on ?_ hb_wd ))
                · exact HT.out.below (Nat.le_refl _) (by repeat (first | with_reducible refine Below.drew ?_ | with_reducible refine below_drewN ?_ | with_reducible refine Below.alloc_ ?_ _ | with_reducible refine Below.setCell ?_ (by first | (simp; done) | (simp; omega)) _ | with_reducible exact Below.refl _ _ | with_reducible exact hb_wa | with_reducible refine Below.on ?_ hb_wa | with_reducible exact hb_wb | with_reducible refine Below.on ?_ hb_wb | with_reducible exact hb_wc | with_reducible refine Below.on ?_ hb_wc | with_reducible exact hb_wd | with_reducible refine Below.on ?_ hb_wd ))
                rintro e we ⟨rfl, hb_we⟩
                have hc_we := (bcell hb_we).1
                have hf_we := (bcell hb_we).2
                have hz_we_0 : w.heap.size < we.heap.size := by have h_ := hb_we.size; (try simp at h_); omega
                go_wp2_with fail
                refine (majority_is b c _ false _ ?_ f1 f2 ht2 ?_ hM.out).mono ?_
                · exact HG.out.below HG.out.lt (by repeat (first | with_reducible refine Below.drew ?_ | with_reducible refine below_drewN ?_ | with_reducible refine Below.alloc_ ?_ _ | with_reducible refine Below.setCell ?_ (by first | (simp; done) | (simp; omega)) _ | with_reducible exact Below.refl _ _ | with_reducible exact hb_wb | with_reducible refine Below.on ?_ hb_wb | with_reducible exact hb_wc | with_reducible refine Below.on ?_ hb_wc | with_reducible exact hb_wd | with_reducible refine Below.on ?_ hb_wd | with_reducible exact hb_we | with_reducible refine Below.on ?_ hb_we ))
                · exact HT.out.below (Nat.le_refl _) (by repeat (first | with_reducible refine Below.drew ?_ | with_reducible refine below_drewN ?_ | with_reducible refine Below.alloc_ ?_ _ | with_reducible refine Below.setCell ?_ (by first | (simp; done) | (simp; omega)) _ | with_reducible exact Below.refl _ _ | with_reducible exact hb_wa | with_reducible refine Below.on ?_ hb_wa | with_reducible exact hb_wb | with_reducible refine Below.on ?_ hb_wb | with_reducible exact hb_wc | with_reducible refine Below.on ?_ hb_wc | with_reducible exact hb_wd | with_reducible refine Below.on ?_ hb_wd | with_reducible exact hb_we | with_reducible refine Below.on ?_ hb_we ))
                rintro e wf ⟨rfl, hb_wf⟩
                have hc_wf := (bcell hb_wf).1
                have hf_wf := (bcell hb_wf).2
                go_wp2
                go_ret
                exact ⟨by simp, (by repeat (first | with_reducible refine Below.drew ?_ | with_reducible refine below_drewN ?_ | with_reducible refine Below.alloc_ ?_ _ | with_reducible refine Below.setCell ?_ (by first | (simp; done) | (simp; omega)) _ | with_reducible exact Below.refl _ _ | with_reducible exact hb_wa | with_reducible refine Below.on ?_ hb_wa | with_reducible exact hb_wb | with_reducible refine Below.on ?_ hb_wb | with_reducible exact hb_wc | with_reducible refine Below.on ?_ hb_wc | with_reducible exact hb_wd | with_reducible refine Below.on ?_ hb_wd | with_reducible exact hb_we | with_reducible refine Below.on ?_ hb_we | with_reducible exact hb_wf | with_reducible refine Below.on ?_ hb_wf ))⟩
            · have hS := Lib.hid (by simpa using hS : majB c s = false)
              go_wp2_with fail
              refine (majority_is b c _ false _ ?_ f1 f2 hs2 ?_ hS.out).mono ?_
              · exact HG.out.below HG.out.lt (by repeat (first | with_reducible refine Below.drew ?_ | with_reducible refine below_drewN ?_ | with_reducible refine Below.alloc_ ?_ _ | with_reducible refine Below.setCell ?_ (by first | (simp; done) | (simp; omega)) _ | with_reducible exact Below.refl _ _ | with_reducible exact hb_wb | with_reducible refine Below.on ?_ hb_wb | with_reducible exact hb_wc | with_reducible refine Below.on ?_ hb_wc | with_reducible exact hb_wd | with_reducible refine Below.on ?_ hb_wd ))
              · exact HT.out.below (Nat.le_refl _) (by repeat (first | with_reducible refine Below.drew ?_ | with_reducible refine below_drewN ?_ | with_reducible refine Below.alloc_ ?_ _ | with_reducible refine Below.setCell ?_ (by first | (simp; done) | (simp; omega)) _ | with_reducible exact Below.refl _ _ | with_reducible exact hb_wa | with_reducible refine Below.on ?_ hb_wa | with_reducible exact hb_wb | with_reducible refine Below.on ?_ hb_wb | with_reducible exact hb_wc | with_reducible refine Below.on ?_ hb_wc | with_reducible exact hb_wd | with_reducible refine Below.on ?_ hb_wd ))
              rintro e we ⟨rfl, hb_we⟩
              have hc_we := (bcell hb_we).1
              have hf_we := (bcell hb_we).2
              go_wp2
              go_ret
              exact ⟨by simp, (by repeat (first | with_reducible refine Below.drew ?_ | with_reducible refine below_drewN ?_ | with_reducible refine Below.alloc_ ?_ _ | with_reducible refine Below.setCell ?_ (by first | (simp; done) | (simp; omega)) _ | with_reducible exact Below.refl _ _ | with_reducible exact hb_wa | with_reducible refine Below.on ?_ hb_wa | with_reducible exact hb_wb | with_reducible refine Below.on ?_ hb_wb | with_reducible exact hb_wc | with_reducible refine Below.on ?_ hb_wc | with_reducible exact hb_wd | with_reducible refine Below.on ?_ hb_wd | with_reducible exact hb_we | with_reducible refine Below.on ?_ hb_we ))⟩
      · go_wp2
        have HP : (0 : Int) ≤ q ∧ q < 2 * c.f + 1 := by omega
        go_loop [11, 13] (fun v i => ∃ k : Nat, (k : Int) ≤ c.f ∧ i = .int .i64 k ∧ v = .int .u32 (ring (2 * c.f + 1) q k : Nat)) (fun _ i => (c.f - intOf i).toNat)
        case atStart => exact ⟨0, by omega, rfl, rfl⟩
        case round =>
          obtain ⟨k, hk, rfl, rfl⟩ := hrel
          by_cases hlt : (k : Int) < c.f
          · go_wp2_with fail
            (with_reducible refine (with_any _ _ _ (ring_lt _ _ k)).mono ?_)
            rintro e w1 ⟨rfl, rfl⟩
            go_wp2
            go_round
            case rel => exact ⟨k + 1, by omega, by go_num, by simp only [ring, Int.zero_add]⟩
            case measure => simp [intOf]; omega
          · have hke : k = c.f.toNat := by omega
            have hkf : (k : Int) = c.f := by omega
            obtain ⟨m1, m2⟩ := ring_maj c q f1 f2 HP.1 HP.2
            rw [← hke] at m1 m2
            have hlt2 := ring_lt (2 * c.f + 1) q k
            generalize ring (2 * c.f + 1) q k = some1 at *
            have m3 := all_maj c f1 f2
            have m1 := Lib.hid m1
            have m2 := Lib.hid m2
            have m3 := Lib.hid m3
            (try simp only [Int.zero_add] at m2)
            clear hke hkf hk
            go_wp2_with fail
            refine (majority_is b c some1 false _ ?_ f1 f2 hlt2 ?_ m1.out).mono ?_
            · exact HG.out.below HG.out.lt (by repeat (first | with_reducible refine Below.drew ?_ | with_reducible refine below_drewN ?_ | with_reducible refine Below.alloc_ ?_ _ | with_reducible refine Below.setCell ?_ (by first | (simp; done) | (simp; omega)) _ | with_reducible exact Below.refl _ _ ))
            · exact HT.out.below (Nat.le_refl _) (by repeat (first | with_reducible refine Below.drew ?_ | with_reducible refine below_drewN ?_ | with_reducible refine Below.alloc_ ?_ _ | with_reducible refine Below.setCell ?_ (by first | (simp; done) | (simp; omega)) _ | with_reducible exact Below.refl _ _ | with_reducible exact hb_wa | with_reducible refine Below.on ?_ hb_wa ))
            rintro e wb ⟨rfl, hb_wb⟩
            have hc_wb := (bcell hb_wb).1
            have hf_wb := (bcell hb_wb).2
            have hz_wb_0 : w.heap.size < wb.heap.size := by have h_ := hb_wb.size; (try simp at h_); omega
            go_wp2_with fail
            (with_reducible refine (with_any _ _ _ hlt2).mono ?_)
            rintro e w1 ⟨rfl, rfl⟩
            go_wp2_with fail
            refine (majority_is b c _ true _ ?_ f1 f2 (withB_lt _ hlt2) ?_ m2.out).mono ?_
            · exact HG.out.below HG.out.lt (by repeat (first | with_reducible refine Below.drew ?_ | with_reducible refine below_drewN ?_ | with_reducible refine Below.alloc_ ?_ _ | with_reducible refine Below.setCell ?_ (by first | (simp; done) | (simp; omega)) _ | with_reducible exact Below.refl _ _ | with_reducible exact hb_wb | with_reducible refine Below.on ?_ hb_wb ))
            · exact HT.out.below (Nat.le_refl _) (by repeat (first | with_reducible refine Below.drew ?_ | with_reducible refine below_drewN ?_ | with_reducible refine Below.alloc_ ?_ _ | with_reducible refine Below.setCell ?_ (by first | (simp; done) | (simp; omega)) _ | with_reducible exact Below.refl _ _ | with_reducible exact hb_wa | with_reducible refine Below.on ?_ hb_wa | with_reducible exact hb_wb | with_reducible refine Below.on ?_ hb_wb ))
            rintro e wc ⟨rfl, hb_wc⟩
            have hc_wc := (bcell hb_wc).1
            have hf_wc := (bcell hb_wc).2
            have hz_wc_0 : w.heap.size < wc.heap.size := by have h_ := hb_wc.size; (try simp at h_); omega
            go_wp2_with fail
            refine (all_at b c _ (HG.out.below HG.out.lt (by repeat (first | with_reducible refine Below.drew ?_ | with_reducible refine below_drewN ?_ | with_reducible refine Below.alloc_ ?_ _ | with_reducible refine Below.setCell ?_ (by first | (simp; done) | (simp; omega)) _ | with_reducible exact Below.refl _ _ | with_reducible exact hb_wb | with_reducible refine Below.on ?_ hb_wb | with_reducible exact hb_wc | with_reducible refine Below.on ?_ hb_wc ))).nodes f1 f2).mono ?_
            rintro e w1 ⟨rfl, rfl⟩
            go_wp2_with fail
            refine (majority_is b c _ true _ ?_ f1 f2 (allB_lt f1 f2) ?_ m3.out).mono ?_
            · exact HG.out.below HG.out.lt (by repeat (first | with_reducible refine Below.drew ?_ | with_reducible refine below_drewN ?_ | with_reducible refine Below.alloc_ ?_ _ | with_reducible refine Below.setCell ?_ (by first | (simp; done) | (simp; omega)) _ | with_reducible exact Below.refl _ _ | with_reducible exact hb_wb | with_reducible refine Below.on ?_ hb_wb | with_reducible exact hb_wc | with_reducible refine Below.on ?_ hb_wc ))
            · exact HT.out.below (Nat.le_refl _) (by repeat (first | with_reducible refine Below.drew ?_ | with_reducible refine below_drewN ?_ | with_reducible refine Below.alloc_ ?_ _ | with_reducible refine Below.setCell ?_ (by first | (simp; done) | (simp; omega)) _ | with_reducible exact Below.refl _ _ | with_reducible exact hb_wa | with_reducible refine Below.on ?_ hb_wa | with_reducible exact hb_wb | with_reducible refine Below.on ?_ hb_wb | with_reducible exact hb_wc | with_reducible refine Below.on ?_ hb_wc ))
            rintro e wd ⟨rfl, hb_wd⟩
            have hc_wd := (bcell hb_wd).1
            have hf_wd := (bcell hb_wd).2
            have hz_wd_0 : w.heap.size < wd.heap.size := by have h_ := hb_wd.size; (try simp at h_); omega
            by_cases hS : majB c s = true
            · by_cases hM : majB c t = true
              · obtain ⟨x, x1, x2, x3, x4⟩ := meet_pure c s t f1 f2 hS hM
                have hS := Lib.hid hS
                have hM := Lib.hid hM
                have x1 := Lib.hid x1
                have x3 := Lib.hid x3
                have x4 := Lib.hid x4
                have ha1 := and_u32 s (allB c) hs2 (allB_lt f1 f2)
                have ha2 := and_u32 t (allB c) ht2 (allB_lt f1 f2)
                go_wp2_with fail
                refine (majority_is b c _ true _ ?_ f1 f2 hs2 ?_ hS.out).mono ?_
                · exact HG.out.below HG.out.lt (by repeat (first | with_reducible refine Below.drew ?_ | with_reducible refine below_drewN ?_ | with_reducible refine Below.alloc_ ?_ _ | with_reducible refine Below.setCell ?_ (by first | (simp; done) | (simp; omega)) _ | with_reducible exact Below.refl _ _ | with_reducible exact hb_wb | with_reducible refine Below.on ?_ hb_wb | with_reducible exact hb_wc | with_reducible refine Below.on ?_ hb_wc | with_reducible exact hb_wd | with_reducible refine Below.on ?_ hb_wd ))
                · exact HT.out.below (Nat.le_refl _) (by repeat (first | with_reducible refine Below.drew ?_ | with_reducible refine below_drewN ?_ | with_reducible refine Below.alloc_ ?_ _ | with_reducible refine Below.setCell ?_ (by first | (simp; done) | (simp; omega)) _ | with_reducible exact Below.refl _ _ | with_reducible exact hb_wa | with_reducible refine Below.on ?_ hb_wa | with_reducible exact hb_wb | with_reducible refine Below.on ?_ hb_wb | with_reducible exact hb_wc | with_reducible refine Below.on ?_ hb_wc | with_reducible exact hb_wd | with_reducible refine Below.on ?_ hb_wd ))
                rintro e we ⟨rfl, hb_we⟩
                have hc_we := (bcell hb_we).1
                have hf_we := (bcell hb_we).2
                have hz_we_0 : w.heap.size < we.heap.size := by have h_ := hb_we.size; (try simp at h_); omega
                go_wp2_with fail
                refine (majority_is b c _ true _ ?_ f1 f2 ht2 ?_ hM.out).mono ?_
                · exact HG.out.below HG.out.lt (by repeat (first | with_reducible refine Below.drew ?_ | with_reducible refine below_drewN ?_ | with_reducible refine Below.alloc_ ?_ _ | with_reducible refine Below.setCell ?_ (by first | (simp; done) | (simp; omega)) _ | with_reducible exact Below.refl _ _ | with_reducible exact hb_wb | with_reducible refine Below.on ?_ hb_wb | with_reducible exact hb_wc | with_reducible refine Below.on ?_ hb_wc | with_reducible exact hb_wd | with_reducible refine Below.on ?_ hb_wd | with_reducible exact hb_we | with_reducible refine Below.on ?_ hb_we ))
                · exact HT.out.below (Nat.le_refl _) (by repeat (first | with_reducible refine Below.drew ?_ | with_reducible refine below_drewN ?_ | with_reducible refine Below.alloc_ ?_ _ | with_reducible refine Below.setCell ?_ (by first | (simp; done) | (simp; omega)) _ | with_reducible exact Below.refl _ _ | with_reducible exact hb_wa | with_reducible refine Below.on ?_ hb_wa | with_reducible exact hb_wb | with_reducible refine Below.on ?_ hb_wb | with_reducible exact hb_wc | with_reducible refine Below.on ?_ hb_wc | with_reducible exact hb_wd | with_reducible refine Below.on ?_ hb_wd | with_reducible exact hb_we | with_reducible refine Below.on ?_ hb_we ))
                rintro e wf ⟨rfl, hb_wf⟩
                have hc_wf := (bcell hb_wf).1
                have hf_wf := (bcell hb_wf).2
                have hz_wf_0 : w.heap.size < wf.heap.size := by have h_ := hb_wf.size; (try simp at h_); omega
                go_wp2_with fail
                refine (all_at b c _ (HG.out.below HG.out.lt (by repeat (first | with_reducible refine Below.drew ?_ | with_reducible refine below_drewN ?_ | with_reducible refine Below.alloc_ ?_ _ | with_reducible refine Below.setCell ?_ (by first | (simp; done) | (simp; omega)) _ | with_reducible exact Below.refl _ _ | with_reducible exact hb_wb | with_reducible refine Below.on ?_ hb_wb | with_reducible exact hb_wc | with_reducible refine Below.on ?_ hb_wc | with_reducible exact hb_wd | with_reducible refine Below.on ?_ hb_wd | with_reducible exact hb_we | with_reducible refine Below.on ?_ hb_we | with_reducible exact hb_wf | with_reducible refine Below.on ?_ hb_wf ))).nodes f1 f2).mono ?_
                rintro e w1 ⟨rfl, rfl⟩
                go_wp2_with fail
                refine (all_at b c _ (HG.out.below HG.out.lt (by repeat (first | with_reducible refine Below.drew ?_ | with_reducible refine below_drewN ?_ | with_reducible refine Below.alloc_ ?_ _ | with_reducible refine Below.setCell ?_ (by first | (simp; done) | (simp; omega)) _ | with_reducible exact Below.refl _ _ | with_reducible exact hb_wb | with_reducible refine Below.on ?_ hb_wb | with_reducible exact hb_wc | with_reducible refine Below.on ?_ hb_wc | with_reducible exact hb_wd | with_reducible refine Below.on ?_ hb_wd | with_reducible exact hb_we | with_reducible refine Below.on ?_ hb_we | with_reducible exact hb_wf | with_reducible refine Below.on ?_ hb_wf ))).nodes f1 f2).mono ?_
                rintro e w1 ⟨rfl, rfl⟩
                go_wp2_with fail
                refine (cross_any (s &&& allB c) (t &&& allB c) _ (and_lt _ hs2) (and_lt _ ht2) ?_).mono ?_
                · exact HT.out.below (Nat.le_refl _) (by repeat (first | with_reducible refine Below.drew ?_ | with_reducible refine below_drewN ?_ | with_reducible refine Below.alloc_ ?_ _ | with_reducible refine Below.setCell ?_ (by first | (simp; done) | (simp; omega)) _ | with_reducible exact Below.refl _ _ | with_reducible exact hb_wa | with_reducible refine Below.on ?_ hb_wa | with_reducible exact hb_wb | with_reducible refine Below.on ?_ hb_wb | with_reducible exact hb_wc | with_reducible refine Below.on ?_ hb_wc | with_reducible exact hb_wd | with_reducible refine Below.on ?_ hb_wd | with_reducible exact hb_we | with_reducible refine Below.on ?_ hb_we | with_reducible exact hb_wf | with_reducible refine Below.on ?_ hb_wf ))
                rintro e wg ⟨rfl, hb_wg⟩
                rw [x1.out]
                have hc_wg := (bcell hb_wg).1
                have hf_wg := (bcell hb_wg).2
                have hz_wg_0 : w.heap.size < wg.heap.size := by have h_ := hb_wg.size; (try simp at h_); omega
                have A1 := has_any s x wg hs2
                have A2 := has_any t x wg ht2
                rw [x3.out] at A1
                rw [x4.out] at A2
                have A1 := Lib.hid A1
                have A2 := Lib.hid A2
                go_wp2_with fail
                refine A1.out.mono ?_
                rintro e w1 ⟨rfl, rfl⟩
                go_wp2_with fail
                refine A2.out.mono ?_
                rintro e w1 ⟨rfl, rfl⟩
                go_wp2
                go_ret
                exact ⟨by simp, (by repeat (first | with_reducible refine Below.drew ?_ | with_reducible refine below_drewN ?_ | with_reducible refine Below.alloc_ ?_ _ | with_reducible refine Below.setCell ?_ (by first | (simp; done) | (simp; omega)) _ | with_reducible exact Below.refl _ _ | with_reducible exact hb_wa | with_reducible refine Below.on ?_ hb_wa | with_reducible exact hb_wb | with_reducible refine Below.on ?_ hb_wb | with_reducible exact hb_wc | with_reducible refine Below.on ?_ hb_wc | with_reducible exact hb_wd | with_reducible refine Below.on ?_ hb_wd | with_reducible exact hb_we | with_reducible refine Below.on ?_ hb_we | with_reducible exact hb_wf | with_reducible refine Below.on ?_ hb_wf | with_reducible exact hb_wg | with_reducible refine Below.on ?_ hb_wg ))⟩
              · have hM := Lib.hid (by simpa using hM : majB c t = false)
                have hS := Lib.hid hS
                go_wp2_with fail
                refine (majority_is b c _ true _ ?_ f1 f2 hs2 ?_ hS.out).mono ?_
                · exact HG.out.below HG.out.lt (by repeat (first | with_reducible refine Below.drew ?_ | with_reducible refine below_drewN ?_ | with_reducible refine Below.alloc_ ?_ _ | with_reducible refine Below.setCell ?_ (by first | (simp; done) | (simp; omega)) _ | with_reducible exact Below.refl _ _ | with_reducible exact hb_wb | with_reducible refine Below.on ?_ hb_wb | with_reducible exact hb_wc | with_reducible refine Below.on ?_ hb_wc | with_reducible exact hb_wd | with_reducible refine Below.on ?_ hb_wd ))
                · exact HT.out.below (Nat.le_refl _) (by repeat (first | with_reducible refine Below.drew ?_ | with_reducible refine below_drewN ?_ | with_reducible refine Below.alloc_ ?_ _ | with_reducible refine Below.setCell ?_ (by first | (simp; done) | (simp; omega)) _ | with_reducible exact Below.refl _ _ | with_reducible exact hb_wa | with_reducible refine Below.on ?_ hb_wa | with_reducible exact hb_wb | with_reducible refine Below.on ?_ hb_wb | with_reducible exact hb_wc | with_reducible refine Below.on ?_ hb_wc | with_reducible exact hb_wd | with_reducible refine Below.on ?_ hb_wd ))
                rintro e we ⟨rfl, hb_we⟩
                have hc_we := (bcell hb_we).1
                have hf_we := (bcell hb_we).2
                have hz_we_0 : w.heap.size < we.heap.size := by have h_ := hb_we.size; (try simp at h_); omega
                go_wp2_with fail
                refine (majority_is b c _ false _ ?_ f1 f2 ht2 ?_ hM.out).mono ?_
                · exact HG.out.below HG.out.lt (by repeat (first | with_reducible refine Below.drew ?_ | with_reducible refine below_drewN ?_ | with_reducible refine Below.alloc_ ?_ _ | with_reducible refine Below.setCell ?_ (by first | (simp; done) | (simp; omega)) _ | with_reducible exact Below.refl _ _ | with_reducible exact hb_wb | with_reducible refine Below.on ?_ hb_wb | with_reducible exact hb_wc | with_reducible refine Below.on ?_ hb_wc | with_reducible exact hb_wd | with_reducible refine Below.on ?_ hb_wd | with_reducible exact hb_we | with_reducible refine Below.on ?_ hb_we ))
                · exact HT.out.below (Nat.le_refl _) (by repeat (first | with_reducible refine Below.drew ?_ | with_reducible refine below_drewN ?_ | with_reducible refine Below.alloc_ ?_ _ | with_reducible refine Below.setCell ?_ (by first | (simp; done) | (simp; omega)) _ | with_reducible exact Below.refl _ _ | with_reducible exact hb_wa | with_reducible refine Below.on ?_ hb_wa | with_reducible exact hb_wb | with_reducible refine Below.on ?_ hb_wb | with_reducible exact hb_wc | with_reducible refine Below.on ?_ hb_wc | with_reducible exact hb_wd | with_reducible refine Below.on ?_ hb_wd | with_reducible exact hb_we | with_reducible refine Below.on ?_ hb_we ))
                rintro e wf ⟨rfl, hb_wf⟩
                have hc_wf := (bcell hb_wf).1
                have hf_wf := (bcell hb_wf).2
                go_wp2
                go_ret
                exact ⟨by simp, (by repeat (first | with_reducible refine Below.drew ?_ | with_reducible refine below_drewN ?_ | with_reducible refine Below.alloc_ ?_ _ | with_reducible refine Below.setCell ?_ (by first | (simp; done) | (simp; omega)) _ | with_reducible exact Below.refl _ _ | with_reducible exact hb_wa | with_reducible refine Below.on ?_ hb_wa | with_reducible exact hb_wb | with_reducible refine Below.on ?_ hb_wb | with_reducible exact hb_wc | with_reducible refine Below.on ?_ hb_wc | with_reducible exact hb_wd | with_reducible refine Below.on ?_ hb_wd | with_reducible exact hb_we | with_reducible refine Below.on ?_ hb_we | with_reducible exact hb_wf | with_reducible refine Below.on ?_ hb_wf ))⟩
            · have hS := Lib.hid (by simpa using hS : majB c s = false)
              go_wp2_with fail
              refine (majority_is b c _ false _ ?_ f1 f2 hs2 ?_ hS.out).mono ?_
              · exact HG.out.below HG.out.lt (by repeat (first | with_reducible refine Below.drew ?_ | with_reducible refine below_drewN ?_ | with_reducible refine Below.alloc_ ?_ _ | with_reducible refine Below.setCell ?_ (by first | (simp; done) | (simp; omega)) _ | with_reducible exact Below.refl _ _ | with_reducible exact hb_wb | with_reducible refine Below.on ?_ hb_wb | with_reducible exact hb_wc | with_reducible refine Below.on ?_ hb_wc | with_reducible exact hb_wd | with_reducible refine Below.on ?_ hb_wd ))
              · exact HT.out.below (Nat.le_refl _) (by repeat (first | with_reducible refine Below.drew ?_ | with_reducible refine below_drewN ?_ | with_reducible refine Below.alloc_ ?_ _ | with_reducible refine Below.setCell ?_ (by first | (simp; done) | (simp; omega)) _ | with_reducible exact Below.refl _ _ | with_reducible exact hb_wa | with_reducible refine Below.on ?_ hb_wa | with_reducible exact hb_wb | with_reducible refine Below.on ?_ hb_wb | with_reducible exact hb_wc | with_reducible refine Below.on ?_ hb_wc | with_reducible exact hb_wd | with_reducible refine Below.on ?_ hb_wd ))
              rintro e we ⟨rfl, hb_we⟩
              have hc_we := (bcell hb_we).1
              have hf_we := (bcell hb_we).2
              go_wp2
              go_ret
              exact ⟨by simp, (by repeat (first | with_reducible refine Below.drew ?_ | with_reducible refine below_drewN ?_ | with_reducible refine Below.alloc_ ?_ _ | with_reducible refine Below.setCell ?_ (by first | (simp; done) | (simp; omega)) _ | with_reducible exact Below.refl _ _ | with_reducible exact hb_wa | with_reducible refine Below.on ?_ hb_wa | with_reducible exact hb_wb | with_reducible refine Below.on ?_ hb_wb | with_reducible exact hb_wc | with_reducible refine Below.on ?_ hb_wc | with_reducible exact hb_wd | with_reducible refine Below.on ?_ hb_wd | with_reducible exact hb_we | with_reducible refine Below.on ?_ hb_we ))⟩
  · have hc_wa := (bcell hb_wa).1
    have hf_wa := (bcell hb_wa).2
    go_wp2
    go_ret
    exact ⟨by simp, (by repeat (first | with_reducible refine Below.drew ?_ | with_reducible refine below_drewN ?_ | with_reducible refine Below.alloc_ ?_ _ | with_reducible refine Below.setCell ?_ (by first | (simp; done) | (simp; omega)) _ | with_reducible exact Below.refl _ _ | with_reducible exact hb_wa | with_reducible refine Below.on ?_ hb_wa ))⟩
theorem meet_law (a0 a1 a2 a3 a4 a5 a6 a7 a8 a9 s t q : Int) (w : World) (h0 : (Lit.int .i64 a0).wf = true) (h1 : (Lit.int .i64 a1).wf = true) (h2 : (Lit.int .u64 a2).wf = true) (h3 : (Lit.int .u64 a3).wf = true) (h4 : (Lit.int .u64 a4).wf = true) (h5 : (Lit.int .u64 a5).wf = true) (h6 : (Lit.int .u64 a6).wf = true) (h7 : (Lit.int .u64 a7).wf = true) (h8 : (Lit.int .u64 a8).wf = true) (h9 : (Lit.int .u64 a9).wf = true) (hs : (Lit.int .u32 s).wf = true) (ht : (Lit.int .u32 t).wf = true) (hq : (Lit.int .i64 q).wf = true) (hT : Tab w) :
    Calls Tryd.prog 4 #[.agg #[.int .i64 a0, .int .i64 a1, .int .u64 a2, .int .u64 a3, .int .u64 a4, .int .u64 a5, .int .u64 a6, .int .u64 a7, .int .u64 a8, .int .u64 a9], .int .u32 s, .int .u32 t, .int .i64 q] w fun e w' => e = .returned (.bool true) ∧ Below w.heap.size w w' :=
  meet_walk ⟨a0, a1, a2, a3, a4, a5, a6, a7, a8, a9⟩ s t q w ⟨(wf_i64 h0).1, (wf_i64 h0).2, (wf_i64 h1).1, (wf_i64 h1).2, (wf_u64 h2).1, (wf_u64 h3).1, (wf_u64 h4).1, (wf_u64 h5).1, (wf_u64 h6).1, (wf_u64 h7).1, (wf_u64 h8).1, (wf_u64 h9).1⟩ hT hs ht hq
end Go.Proofs.YtehmbcpgendkjaaDoor
