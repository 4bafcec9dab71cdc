import Derived.Test.YtehmbcpgendkjaaOwnLoop
import Derived.Test.YtehmbcpgendkjaaZero
namespace Go.Proofs.Ytehmbcpgendkjaa
open Go.RowKit
set_option linter.unusedSimpArgs false
set_option linter.unusedVariables false
/-- An error that is none, or the layer's refusal (i, k). -/
def ErrT (w : World) (T : Option (Int × Int)) (v : Value) : Prop := match T with | none => v = .nilIface | some (i, k) => k ≠ 0 ∧ ErrIs w [(ballotS, i)] k v
theorem ErrT.below {w w' : World} {T : Option (Int × Int)} {v : Value} (h : ErrT w T v) (hb : Below w.heap.size w w') : ErrT w' T v := by
  cases T with
  | none => exact h
  | some p => exact ⟨h.1, h.2.below (Nat.le_refl _) hb⟩
/-- The document's fault: none, or the refusal (i, k). -/
def RefT (w : World) (T : Option (Int × Int)) (sp : Option Addr) (ln : Nat) (cd : Int) : Prop :=
  match T with | none => sp = none ∧ ln = 0 ∧ cd = 0 | some (i, k) => ln = 1 ∧ cd = k ∧ LnkAt w (.slice sp 1 1) [(ballotS, i)]
theorem RefT.below {w w' : World} {T : Option (Int × Int)} {sp : Option Addr} {ln : Nat} {cd : Int} (h : RefT w T sp ln cd) (hb : Below w.heap.size w w') : RefT w' T sp ln cd := by
  cases T with
  | none => exact h
  | some p => exact ⟨h.1, h.2.1, h.2.2.below (Nat.le_refl _) hb⟩
/-- The program answers cells and an error. -/
def AnsP (u : Value) (T : Option (Int × Int)) (w : World) (e : Ending) (w' : World) : Prop := ∃ v, e = .returned (.tuple #[u, v]) ∧ ErrT w' T v ∧ Below w.heap.size w w'
/-- The document answers cells and a fault. -/
def AnsR (u : Value) (T : Option (Int × Int)) (w : World) (e : Ending) (w' : World) : Prop :=
  ∃ sp ln cd, e = .returned (.tuple #[u, .agg #[.slice sp ln ln, .int .i64 cd]]) ∧ RefT w' T sp ln cd ∧ Below w.heap.size w w'
theorem AnsP.gotB {x y : Int} {w w' : World} {e : Ending} (h : GotB x y w e w') : AnsP (.agg #[.int .u64 x, .int .i64 y]) none w e w' := ⟨_, h.1, rfl, h.2⟩
theorem AnsP.noB {i k : Int} {w w' : World} {e : Ending} (hk : k ≠ 0) (h : NoB i k w e w') : AnsP (.agg #[.int .u64 0, .int .i64 0]) (some (i, k)) w e w' := by
  obtain ⟨q, h1, h2, h3⟩ := h
  exact ⟨_, h1, ⟨hk, h2.is⟩, h3⟩
theorem AnsP.gotN {x : Int} {w w' : World} {e : Ending} (h : GotN x w e w') : AnsP (.int .u64 x) none w e w' := ⟨_, h.1, rfl, h.2⟩
theorem AnsP.noN {i k : Int} {w w' : World} {e : Ending} (hk : k ≠ 0) (h : NoN i k w e w') : AnsP (.int .u64 0) (some (i, k)) w e w' := by
  obtain ⟨q, h1, h2, h3⟩ := h
  exact ⟨_, h1, ⟨hk, h2.is⟩, h3⟩
theorem AnsR.got {u : Value} {w w' : World} {e : Ending} (h : RGot u w e w') : AnsR u none w e w' := ⟨none, 0, 0, h.1, ⟨rfl, rfl, rfl⟩, h.2⟩
theorem AnsR.no {u : Value} {i k : Int} {w w' : World} {e : Ending} (h : RNo u i k w e w') : AnsR u (some (i, k)) w e w' := by
  obtain ⟨g, h1, h2, h3, h4, h5⟩ := h
  exact ⟨_, 1, _, h1, ⟨rfl, rfl, h2⟩, h5⟩
/-- Next, Own, Rank, Ranked: what both answer. -/
def nextR (c : Cfg) (n d : Int) : Int × Int × Option (Int × Int) :=
  if validB c n d = true then (match nextB c n d with | some (x, y) => (x, y, none) | none => (0, 0, some (0, 183))) else (0, 0, some (0, 181))
def ownR (c : Cfg) (n d q : Int) : Int × Int × Option (Int × Int) :=
  if validB c n d = true then (if decide (0 ≤ q ∧ q < 2 * c.f + 1) = true then (match ownB c n d q with | some (x, y) => (x, y, none) | none => (0, 0, some (0, 183))) else (0, 0, some (1, 182))) else (0, 0, some (0, 181))
def rankR (c : Cfg) (n d : Int) : Int × Option (Int × Int) := if validB c n d = true then (rankB c n d, none) else (0, some (0, 181))
def rankedR (c : Cfg) (n : Int) : Int × Int × Option (Int × Int) := match rankedB c n with | some (x, y) => (x, y, none) | none => (0, 0, some (0, 184))
section
variable {b d : Nat} {c : Cfg} {w : World}
theorem next_all (n m : Int) (hg : GrpAt w b c (2 * c.f + 1)) (h1 : 1 ≤ c.f) (h2 : c.f ≤ 3) (hn0 : 0 ≤ n) (hm : c.mn ≤ 1099511627776) {x y : Int} {T : Option (Int × Int)} (h : nextR c n m = (x, y, T)) :
    Calls Try.prog 23 #[.pointer (some ⟨b, 0, none⟩), .agg #[.int .u64 n, .int .i64 m]] w (AnsP (.agg #[.int .u64 x, .int .i64 y]) T w) := by
  unfold nextR at h
  by_cases hv : validB c n m = true
  · rw [if_pos hv] at h
    have K := next_ok b c n m w hg h1 h2 hn0 hm hv
    rcases hx : nextB c n m with _ | ⟨x', y'⟩
    · rw [hx] at h K
      simp only [Prod.mk.injEq] at h
      obtain ⟨rfl, rfl, rfl⟩ := h
      exact K.mono fun e w' k => AnsP.noB (by decide) k
    · rw [hx] at h K
      simp only [Prod.mk.injEq] at h
      obtain ⟨rfl, rfl, rfl⟩ := h
      exact K.mono fun e w' k => AnsP.gotB k
  · rw [if_neg hv] at h
    simp only [Prod.mk.injEq] at h
    obtain ⟨rfl, rfl, rfl⟩ := h
    exact (next_bad b c n m w hg h1 h2 hn0 (by simpa using hv)).mono fun e w' k => AnsP.noB (by decide) k
theorem rnext_all (n m : Int) (hg : RefAt w b c) (h1 : 1 ≤ c.f) (h2 : c.f ≤ 3) (hn0 : 0 ≤ n) (hm0 : 1 ≤ c.mn) (hm : c.mn ≤ 1099511627776) {x y : Int} {T : Option (Int × Int)} (h : nextR c n m = (x, y, T)) :
    Calls Try.prog 30 #[.pointer (some ⟨b, 0, none⟩), .agg #[.int .u64 n, .int .i64 m]] w (AnsR (.agg #[.int .u64 x, .int .i64 y]) T w) := by
  unfold nextR at h
  by_cases hv : validB c n m = true
  · rw [if_pos hv] at h
    have K := rnext_ok b c n m w hg h1 h2 hn0 hm0 hm hv
    rcases hx : nextB c n m with _ | ⟨x', y'⟩
    · rw [hx] at h K
      simp only [Prod.mk.injEq] at h
      obtain ⟨rfl, rfl, rfl⟩ := h
      exact K.mono fun e w' k => AnsR.no k
    · rw [hx] at h K
      simp only [Prod.mk.injEq] at h
      obtain ⟨rfl, rfl, rfl⟩ := h
      exact K.mono fun e w' k => AnsR.got k
  · rw [if_neg hv] at h
    simp only [Prod.mk.injEq] at h
    obtain ⟨rfl, rfl, rfl⟩ := h
    exact (rnext_bad b c n m w hg h1 h2 hn0 (by simpa using hv)).mono fun e w' k => AnsR.no k
theorem own_all (n m q : Int) (hg : GrpAt w b c (2 * c.f + 1)) (h1 : 1 ≤ c.f) (h2 : c.f ≤ 3) (hn0 : 0 ≤ n) (hm0 : 1 ≤ c.mn) (hm : c.mn ≤ 1099511627776) {x y : Int} {T : Option (Int × Int)} (h : ownR c n m q = (x, y, T)) :
    Calls Try.prog 25 #[.pointer (some ⟨b, 0, none⟩), .agg #[.int .u64 n, .int .i64 m], .int .i64 q] w (AnsP (.agg #[.int .u64 x, .int .i64 y]) T w) := by
  unfold ownR at h
  by_cases hv : validB c n m = true
  · rw [if_pos hv] at h
    by_cases hq : decide (0 ≤ q ∧ q < 2 * c.f + 1) = true
    · rw [if_pos hq] at h
      have K := own_ok b c n m q w hg h1 h2 hn0 hm0 hm hv hq
      rcases hx : ownB c n m q with _ | ⟨x', y'⟩
      · rw [hx] at h K
        simp only [Prod.mk.injEq] at h
        obtain ⟨rfl, rfl, rfl⟩ := h
        exact K.mono fun e w' k => AnsP.noB (by decide) k
      · rw [hx] at h K
        simp only [Prod.mk.injEq] at h
        obtain ⟨rfl, rfl, rfl⟩ := h
        exact K.mono fun e w' k => AnsP.gotB k
    · rw [if_neg hq] at h
      simp only [Prod.mk.injEq] at h
      obtain ⟨rfl, rfl, rfl⟩ := h
      exact (own_bad b c n m q w hg h1 h2 hn0 hv (by simpa using hq)).mono fun e w' k => AnsP.noB (by decide) k
  · rw [if_neg hv] at h
    simp only [Prod.mk.injEq] at h
    obtain ⟨rfl, rfl, rfl⟩ := h
    exact (own_no _ n m q 181 w (FormNo.bad b c n m w hg h1 h2 hn0 (by simpa using hv))).mono fun e w' k => AnsP.noB (by decide) k
theorem rown_all (n m q : Int) (hg : RefAt w b c) (h1 : 1 ≤ c.f) (h2 : c.f ≤ 3) (hn0 : 0 ≤ n) (hm0 : 1 ≤ c.mn) (hm : c.mn ≤ 1099511627776) {x y : Int} {T : Option (Int × Int)} (h : ownR c n m q = (x, y, T)) :
    Calls Try.prog 31 #[.pointer (some ⟨b, 0, none⟩), .agg #[.int .u64 n, .int .i64 m], .int .i64 q] w (AnsR (.agg #[.int .u64 x, .int .i64 y]) T w) := by
  unfold ownR at h
  by_cases hv : validB c n m = true
  · rw [if_pos hv] at h
    by_cases hq : decide (0 ≤ q ∧ q < 2 * c.f + 1) = true
    · rw [if_pos hq] at h
      have K := rown_ok b c n m q w hg h1 h2 hn0 hm0 hm hv (of_decide_eq_true hq)
      unfold OwnPost at K
      rcases hx : ownB c n m q with _ | ⟨x', y'⟩
      · rw [hx] at h K
        simp only [Prod.mk.injEq] at h
        obtain ⟨rfl, rfl, rfl⟩ := h
        exact K.mono fun e w' k => AnsR.no k
      · rw [hx] at h K
        simp only [Prod.mk.injEq] at h
        obtain ⟨rfl, rfl, rfl⟩ := h
        exact K.mono fun e w' k => AnsR.got k
    · rw [if_neg hq] at h
      simp only [Prod.mk.injEq] at h
      obtain ⟨rfl, rfl, rfl⟩ := h
      exact (rown_node b c n m q w hg h1 h2 hn0 hv (by simpa using hq)).mono fun e w' k => AnsR.no k
  · rw [if_neg hv] at h
    simp only [Prod.mk.injEq] at h
    obtain ⟨rfl, rfl, rfl⟩ := h
    exact (rown_bad b c n m q w hg h1 h2 hn0 (by simpa using hv)).mono fun e w' k => AnsR.no k
theorem rank_all (n m : Int) (hg : GrpAt w b c (2 * c.f + 1)) (h1 : 1 ≤ c.f) (h2 : c.f ≤ 3) (hn0 : 0 ≤ n) (hm : c.mn ≤ 1099511627776) {x : Int} {T : Option (Int × Int)} (h : rankR c n m = (x, T)) :
    Calls Try.prog 26 #[.pointer (some ⟨b, 0, none⟩), .agg #[.int .u64 n, .int .i64 m]] w (AnsP (.int .u64 x) T w) := by
  unfold rankR at h
  by_cases hv : validB c n m = true
  · rw [if_pos hv] at h
    simp only [Prod.mk.injEq] at h
    obtain ⟨rfl, rfl⟩ := h
    exact (rank_ok b c n m w hg h1 h2 hn0 hm hv).mono fun e w' k => AnsP.gotN k
  · rw [if_neg hv] at h
    simp only [Prod.mk.injEq] at h
    obtain ⟨rfl, rfl⟩ := h
    exact (rank_no _ n m 181 w (FormNo.bad b c n m w hg h1 h2 hn0 (by simpa using hv))).mono fun e w' k => AnsP.noN (by decide) k
theorem rrank_all (n m : Int) (hg : RefAt w b c) (h1 : 1 ≤ c.f) (h2 : c.f ≤ 3) (hn0 : 0 ≤ n) (hm : c.mn ≤ 1099511627776) {x : Int} {T : Option (Int × Int)} (h : rankR c n m = (x, T)) :
    Calls Try.prog 32 #[.pointer (some ⟨b, 0, none⟩), .agg #[.int .u64 n, .int .i64 m]] w (AnsR (.int .u64 x) T w) := by
  unfold rankR at h
  by_cases hv : validB c n m = true
  · rw [if_pos hv] at h
    simp only [Prod.mk.injEq] at h
    obtain ⟨rfl, rfl⟩ := h
    exact (rrank_ok b c n m w hg h1 h2 hn0 hm hv).mono fun e w' k => AnsR.got k
  · rw [if_neg hv] at h
    simp only [Prod.mk.injEq] at h
    obtain ⟨rfl, rfl⟩ := h
    exact (rrank_bad b c n m w hg h1 h2 hn0 (by simpa using hv)).mono fun e w' k => AnsR.no k
theorem ranked_all (n : Int) (hg : GrpAt w b c (2 * c.f + 1)) (h1 : 1 ≤ c.f) (h2 : c.f ≤ 3) (hn0 : 0 ≤ n) (hm0 : 1 ≤ c.mn) (hm : c.mn ≤ 1099511627776) {x y : Int} {T : Option (Int × Int)} (h : rankedR c n = (x, y, T)) :
    Calls Try.prog 27 #[.pointer (some ⟨b, 0, none⟩), .int .u64 n] w (AnsP (.agg #[.int .u64 x, .int .i64 y]) T w) := by
  unfold rankedR at h
  have K := ranked_ok b c n w hg h1 h2 hn0 hm0 hm
  rcases hx : rankedB c n with _ | ⟨x', y'⟩
  · rw [hx] at h K
    simp only [Prod.mk.injEq] at h
    obtain ⟨rfl, rfl, rfl⟩ := h
    exact K.mono fun e w' k => AnsP.noB (by decide) k
  · rw [hx] at h K
    simp only [Prod.mk.injEq] at h
    obtain ⟨rfl, rfl, rfl⟩ := h
    exact K.mono fun e w' k => AnsP.gotB k
theorem rranked_all (n : Int) (hg : RefAt w b c) (h1 : 1 ≤ c.f) (h2 : c.f ≤ 3) (hn0 : 0 ≤ n) (hm0 : 1 ≤ c.mn) (hm : c.mn ≤ 1099511627776) {x y : Int} {T : Option (Int × Int)} (h : rankedR c n = (x, y, T)) :
    Calls Try.prog 33 #[.pointer (some ⟨b, 0, none⟩), .int .u64 n] w (AnsR (.agg #[.int .u64 x, .int .i64 y]) T w) := by
  unfold rankedR at h
  have K := rranked_ok b c n w hg h1 h2 hn0 hm0 hm
  unfold RRanked at K
  rcases hx : rankedB c n with _ | ⟨x', y'⟩
  · rw [hx] at h K
    simp only [Prod.mk.injEq] at h
    obtain ⟨rfl, rfl, rfl⟩ := h
    exact K.mono fun e w' k => AnsR.no k
  · rw [hx] at h K
    simp only [Prod.mk.injEq] at h
    obtain ⟨rfl, rfl, rfl⟩ := h
    exact K.mono fun e w' k => AnsR.got k
theorem is_all (T : Option (Int × Int)) (v : Value) (sp : Option Addr) (ln : Nat) (cd : Int) (he : ErrT w T v) (hr : RefT w T sp ln cd) :
    Calls Try.prog 34 #[v, .agg #[.slice sp ln ln, .int .i64 cd]] w fun e w' => e = .returned (.bool true) ∧ Below w.heap.size w w' := by
  cases T with
  | none =>
    obtain rfl := he
    obtain ⟨rfl, rfl, rfl⟩ := hr
    exact is_nil w
  | some p =>
    obtain ⟨i, k⟩ := p
    obtain ⟨rfl, rfl, hl⟩ := hr
    exact is_err v _ [(ballotS, i)] _ w he.2 hl (by simp) (by simp) he.1
end
end Go.Proofs.Ytehmbcpgendkjaa
