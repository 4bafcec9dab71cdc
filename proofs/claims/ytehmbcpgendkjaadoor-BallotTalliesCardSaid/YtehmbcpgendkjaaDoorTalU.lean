import Derived.Test.YtehmbcpgendkjaaDoorRDrop
namespace Go.Proofs.YtehmbcpgendkjaaDoor
open Go.RowKit Go.Maps
set_option linter.unusedSimpArgs false
set_option linter.unusedVariables false
/-- What Speak answers, and the keys behind it. -/
def okK (c : Cfg) (ks : List RK) (key : KK) (x : Int) : Nat := if 0 ≤ x ∧ x < 2 * c.f + 1 then (if lookK ks key = none ∧ 64 ≤ ks.length then 185 else 0) else 182
def ansK (c : Cfg) (ks : List RK) (key : KK) (x : Int) : Nat := if okK c ks key x = 0 then cardB (withB ((lookK ks key).getD 0) x) else 0
def nxtK (c : Cfg) (ks : List RK) (key : KK) (x : Int) : List RK := if okK c ks key x = 0 then spkK ks key x else ks
theorem idx_none_look {ks : List RK} {key : KK} (h : lookK ks key = none) : idxK ks key = none := by
  rcases hk : idxK ks key with _ | i
  · rfl
  · obtain ⟨_, _, h2⟩ := idx_some hk
    rw [h] at h2
    simp at h2
theorem MapIs.congr {w : World} {mb n n' : Nat} {f f' : Int → Option Nat} (h : MapIs w mb f n) (hf : ∀ k, f k = f' k) (hn : n = n') : MapIs w mb f' n' := by
  have e : f = f' := funext hf
  subst e; subst hn; exact h
theorem MapB.congr {w : World} {mb n n' : Nat} {f f' : Int × Int → Option Nat} (h : MapB w mb f n) (hf : ∀ k, f k = f' k) (hn : n = n') : MapB w mb f' n' := by
  have e : f = f' := funext hf
  subst e; subst hn; exact h
def f1K (ks : List RK) : Int → Option Nat := fun k => lookK ks (k, 0, 0)
def f2K (ks : List RK) : Int × Int → Option Nat := fun k => lookK ks (0, k.1, k.2)
/-- The sets of a tally fit. -/
def FitK (ks : List RK) : Prop := ∀ key, (lookK ks key).getD 0 < 4294967296
theorem fit_spk {ks : List RK} (key : KK) (x : Int) (h : FitK ks) : FitK (spkK ks key x) := fun k' => by
  rw [look_spk]
  split
  · exact withB_lt x (h key)
  · exact h k'
theorem fit_drop {ks : List RK} (key : KK) (h : FitK ks) : FitK (dropK ks key) := fun k' => by
  rw [look_drop]
  split
  · decide
  · exact h k'
theorem len_spk_le {c : Cfg} {ks : List RK} {key : KK} {x : Int} (h : ks.length ≤ 64) : (nxtK c ks key x).length ≤ 64 := by
  unfold nxtK
  split
  · rename_i h0
    rw [len_spk]
    split
    · exact h
    · rename_i h1
      unfold okK at h0
      split at h0
      · split at h0
        · omega
        · rename_i h2
          by_cases h3 : lookK ks key = none
          · have : ¬ 64 ≤ ks.length := fun h4 => h2 ⟨h3, h4⟩
            omega
          · rcases hk : lookK ks key with _ | v
            · exact absurd hk h3
            · rw [hk] at h1; simp at h1
      · omega
  · exact h
theorem nod_nxt {c : Cfg} {ks : List RK} {key : KK} {x : Int} (h : NodK ks) : NodK (nxtK c ks key x) := by
  unfold nxtK
  split
  · exact nod_spk h
  · exact h
theorem fit_nxt {c : Cfg} {ks : List RK} {key : KK} {x : Int} (h : FitK ks) : FitK (nxtK c ks key x) := by
  unfold nxtK
  split
  · exact fit_spk _ _ h
  · exact h
theorem map_spk {w : World} {mb : Nat} {ks : List RK} {k x : Int} (h : MapIs w mb (updM (f1K ks) k (some (withB ((f1K ks k).getD 0) x))) (putN (f1K ks) k ks.length)) : MapIs w mb (f1K (spkK ks (k, 0, 0) x)) (spkK ks (k, 0, 0) x).length := by
  refine h.congr (fun k' => ?_) ?_
  · unfold updM f1K
    rw [look_spk]
    by_cases e : k' = k
    · simp [e]
    · simp [e]
  · unfold putN f1K
    rw [len_spk]
theorem map_drop {w : World} {mb : Nat} {ks : List RK} {k : Int} (hn : NodK ks) (h : MapIs w mb (updM (f1K ks) k none) (delN (f1K ks) k ks.length)) : MapIs w mb (f1K (dropK ks (k, 0, 0))) (dropK ks (k, 0, 0)).length := by
  refine h.congr (fun k' => ?_) ?_
  · unfold updM f1K
    rw [look_drop]
    by_cases e : k' = k
    · simp [e]
    · simp [e]
  · unfold delN f1K
    rw [len_drop _ hn]
theorem mapB_spk {w : World} {mb : Nat} {ks : List RK} {k : Int × Int} {x : Int} (h : MapB w mb (updB (f2K ks) k (some (withB ((f2K ks k).getD 0) x))) (putC (f2K ks) k ks.length)) : MapB w mb (f2K (spkK ks (0, k.1, k.2) x)) (spkK ks (0, k.1, k.2) x).length := by
  refine h.congr (fun k' => ?_) ?_
  · unfold updB f2K
    rw [look_spk]
    by_cases e : k' = k
    · simp [e]
    · have : ¬ ((0, k'.1, k'.2) : KK) = (0, k.1, k.2) := fun h => e (by simp only [Prod.mk.injEq, true_and] at h; exact Prod.ext h.1 h.2)
      rw [if_neg e, if_neg this]
  · unfold putC f2K
    rw [len_spk]
theorem mapB_drop {w : World} {mb : Nat} {ks : List RK} {k : Int × Int} (hn : NodK ks) (h : MapB w mb (updB (f2K ks) k none) (delC (f2K ks) k ks.length)) : MapB w mb (f2K (dropK ks (0, k.1, k.2))) (dropK ks (0, k.1, k.2)).length := by
  refine h.congr (fun k' => ?_) ?_
  · unfold updB f2K
    rw [look_drop]
    by_cases e : k' = k
    · simp [e]
    · have : ¬ ((0, k'.1, k'.2) : KK) = (0, k.1, k.2) := fun h => e (by simp only [Prod.mk.injEq, true_and] at h; exact Prod.ext h.1 h.2)
      rw [if_neg e, if_neg this]
  · unfold delC f2K
    rw [len_drop _ hn]
theorem ok_cases (c : Cfg) (ks : List RK) (key : KK) (x : Int) :
    (¬ (0 ≤ x ∧ x < 2 * c.f + 1) ∧ okK c ks key x = 182 ∧ ansK c ks key x = 0 ∧ nxtK c ks key x = ks) ∨
    ((0 ≤ x ∧ x < 2 * c.f + 1) ∧ lookK ks key = none ∧ 64 ≤ ks.length ∧ okK c ks key x = 185 ∧ ansK c ks key x = 0 ∧ nxtK c ks key x = ks) ∨
    ((0 ≤ x ∧ x < 2 * c.f + 1) ∧ (lookK ks key = none → ks.length < 64) ∧ okK c ks key x = 0 ∧ ansK c ks key x = cardB (withB ((lookK ks key).getD 0) x) ∧ nxtK c ks key x = spkK ks key x) := by
  by_cases hx : 0 ≤ x ∧ x < 2 * c.f + 1
  · by_cases hf : lookK ks key = none ∧ 64 ≤ ks.length
    · have h0 : okK c ks key x = 185 := by unfold okK; rw [if_pos hx, if_pos hf]
      exact .inr (.inl ⟨hx, hf.1, hf.2, h0, by simp [ansK, h0], by simp [nxtK, h0]⟩)
    · have h0 : okK c ks key x = 0 := by unfold okK; rw [if_pos hx, if_neg hf]
      exact .inr (.inr ⟨hx, fun h => by by_cases h4 : 64 ≤ ks.length; exact absurd ⟨h, h4⟩ hf; omega, h0, by unfold ansK; rw [if_pos h0], by unfold nxtK; rw [if_pos h0]⟩)
  · have h0 : okK c ks key x = 182 := by unfold okK; rw [if_neg hx]
    exact .inl ⟨hx, h0, by simp [ansK, h0], by simp [nxtK, h0]⟩
theorem tspeak_u (tb gb mb : Nat) (c : Cfg) (ks : List RK) (k x : Int) (hk : (Lit.int .u64 k).wf = true) (w : World) (h : TalAt w tb gb mb) (hm : MapIs w mb (f1K ks) ks.length) (hg : GrpAt w gb c (2 * c.f + 1)) (h1 : 1 ≤ c.f) (hl : ks.length ≤ 64)
    (hT : Tab w) (hne : mb ≠ tb) (htm : 0 ≠ mb) :
    Calls Tryd.prog 46 #[.pointer (some ⟨tb, 0, none⟩), .int .u64 k, .int .i64 x] w fun e w' => e = .returned (.tuple #[.int .i64 (ansK c ks (k, 0, 0) x : Nat), .int .i64 (okK c ks (k, 0, 0) x : Nat)]) ∧ MapIs w' mb (f1K (nxtK c ks (k, 0, 0) x)) (nxtK c ks (k, 0, 0) x).length ∧ w.grownBy w' (some mb) := by
  rcases ok_cases c ks (k, 0, 0) x with ⟨hx, e1, e2, e3⟩ | ⟨hx, hf, h64, e1, e2, e3⟩ | ⟨hx, hf, e1, e2, e3⟩
  · rw [e1, e2, e3]
    exact (tspeak_node tb gb mb c k x w h hg h1 hx).mono fun e w' ⟨a, b⟩ => by subst b; exact ⟨a, hm, World.grownBy.refl _ _⟩
  · rw [e1, e2, e3]
    exact (tspeak_full tb gb mb c (f1K ks) ks.length k x hk w h hm hg h1 hx hf h64).mono fun e w' ⟨a, b⟩ => by subst b; exact ⟨a, hm, World.grownBy.refl _ _⟩
  · rw [e1, e2, e3]
    exact (tspeak_ok tb gb mb c (f1K ks) ks.length k x hk w h hm hg h1 hx (fun h => hf h) hT hne htm (by unfold maxLen; omega)).mono fun e w' ⟨a, b, d⟩ => ⟨a, map_spk b, d⟩
theorem bspeak_u (tb gb mb : Nat) (c : Cfg) (ks : List RK) (k : Int × Int) (x : Int) (hk : KWf k) (w : World) (h : TalAt w tb gb mb) (hm : MapB w mb (f2K ks) ks.length) (hg : GrpAt w gb c (2 * c.f + 1)) (h1 : 1 ≤ c.f) (hl : ks.length ≤ 64)
    (hT : Tab w) (hne : mb ≠ tb) (htm : 0 ≠ mb) :
    Calls Tryd.prog 59 #[.pointer (some ⟨tb, 0, none⟩), .agg #[.int .u64 k.1, .int .i64 k.2], .int .i64 x] w fun e w' => e = .returned (.tuple #[.int .i64 (ansK c ks (0, k.1, k.2) x : Nat), .int .i64 (okK c ks (0, k.1, k.2) x : Nat)]) ∧ MapB w' mb (f2K (nxtK c ks (0, k.1, k.2) x)) (nxtK c ks (0, k.1, k.2) x).length ∧ w.grownBy w' (some mb) := by
  rcases ok_cases c ks (0, k.1, k.2) x with ⟨hx, e1, e2, e3⟩ | ⟨hx, hf, h64, e1, e2, e3⟩ | ⟨hx, hf, e1, e2, e3⟩
  · rw [e1, e2, e3]
    exact (bspeak_node tb gb mb c k x w h hg h1 hx).mono fun e w' ⟨a, b⟩ => ⟨a, hm.below hm.lt b, grown_of_below b _⟩
  · rw [e1, e2, e3]
    exact (bspeak_full tb gb mb c (f2K ks) ks.length k x hk w h hm hg h1 hx hf h64).mono fun e w' ⟨a, b⟩ => ⟨a, hm.below hm.lt b, grown_of_below b _⟩
  · rw [e1, e2, e3]
    exact (bspeak_ok tb gb mb c (f2K ks) ks.length k x hk w h hm hg h1 hx (fun h => hf h) hT hne htm (by unfold maxLen; omega)).mono fun e w' ⟨a, b, d⟩ => ⟨a, mapB_spk b, d⟩
/-- What a step leaves of the document's tally. -/
def RPost (w : World) (rb hb B : Nat) (A : Option Addr) (ks' : List RK) (w' : World) : Prop :=
  ∃ A' cap', RTal w' rb hb B A' cap' ks' ∧ (∀ g, A' = some ⟨g, 0, none⟩ → A = some ⟨g, 0, none⟩ ∨ w.heap.size ≤ g) ∧ But2 w w' rb (rowB rb A)
theorem rtspeak_u (rb hb B cap : Nat) (c : Cfg) (A : Option Addr) (ks : List RK) (n bn bd x : Int) (w : World) (h : RTal w rb hb B A cap ks) (hg : RefAt w hb c) (h1 : 1 ≤ c.f) (h2 : c.f ≤ 3) (hl : ks.length ≤ 64) (hn : NodK ks) (hF : FitK ks) (hB : B ≤ w.heap.size) :
    Calls Tryd.prog 56 #[.pointer (some ⟨rb, 0, none⟩), .int .u64 n, .agg #[.int .u64 bn, .int .i64 bd], .int .i64 x] w fun e w' => e = .returned (.tuple #[.int .i64 (ansK c ks (n, bn, bd) x : Nat), .int .i64 (okK c ks (n, bn, bd) x : Nat)]) ∧ RPost w rb hb B A (nxtK c ks (n, bn, bd) x) w' := by
  rcases ok_cases c ks (n, bn, bd) x with ⟨hx, e1, e2, e3⟩ | ⟨hx, hf, h64, e1, e2, e3⟩ | ⟨hx, hf, e1, e2, e3⟩
  · rw [e1, e2, e3]
    exact (rtspeak_node rb hb B cap c A ks n bn bd x w h hg h1 h2 hx).mono fun e w' ⟨a, b⟩ => ⟨a, A, cap, h.below b, fun g hg => .inl hg, But2.of_below b⟩
  · rw [e1, e2, e3]
    exact (rtspeak_full rb hb B cap c A ks n bn bd x w h hg h1 h2 hx hl hn (idx_none_look hf) h64).mono fun e w' ⟨a, b⟩ => ⟨a, A, cap, h.below b, fun g hg => .inl hg, But2.of_below b⟩
  · rw [e1, e2, e3]
    rcases hi : idxK ks (n, bn, bd) with _ | i
    · have hlk := idx_none hi
      rw [hlk]
      refine (rtspeak_new rb hb B cap c A ks n bn bd x w h hg h1 h2 hx (hf hlk) hn hi hB).mono fun e w' ⟨a, g, cap', b1, b2, b3⟩ => ⟨a, _, cap', b1, fun g' hg' => ?_, b3⟩
      obtain rfl : g = g' := by injection hg' with h_; injection h_
      exact b2
    · obtain ⟨hlt, hk1, hk2⟩ := idx_some hi
      have hv := hF (n, bn, bd)
      rw [hk2] at hv ⊢
      refine (rtspeak_in rb hb B cap c A ks n bn bd x w h hg h1 h2 hx hl hn i hi _ hv hk2).mono fun e w' ⟨a, g, cap', b1, b2, b3⟩ => ⟨a, _, cap', b1, fun g' hg' => ?_, b3⟩
      obtain rfl : g = g' := by injection hg' with h_; injection h_
      exact b2
theorem rtdrop_u (rb hb B cap : Nat) (A : Option Addr) (ks : List RK) (n bn bd : Int) (w : World) (h : RTal w rb hb B A cap ks) (hl : ks.length ≤ 64) (hB : B ≤ w.heap.size) :
    Calls Tryd.prog 57 #[.pointer (some ⟨rb, 0, none⟩), .int .u64 n, .agg #[.int .u64 bn, .int .i64 bd]] w fun e w' => (∃ v, e = .returned v) ∧ RPost w rb hb B A (dropK ks (n, bn, bd)) w' :=
  (rtdrop_at rb hb B cap A ks n bn bd w h hl hB).mono fun e w' ⟨a, A', cap', b1, b2, b3⟩ => ⟨a, A', cap', b1, fun g hg => by
    rcases b2 with b2 | ⟨g', b2, b4⟩
    · rw [b2] at hg; simp at hg
    · rw [b2] at hg
      obtain rfl : g' = g := by injection hg with h_; injection h_
      exact .inr b4, ⟨b3.os, b3.tape, b3.output, b3.size, fun k hk h1 _ => b3.block k hk h1 h1⟩⟩
end Go.Proofs.YtehmbcpgendkjaaDoor
