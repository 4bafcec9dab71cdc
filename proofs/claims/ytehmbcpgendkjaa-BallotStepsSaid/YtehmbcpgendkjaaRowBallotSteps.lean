/- BallotSteps returns true for every input, and each argument reads behind the call as it read before; no condition. -/
import Derived.Test.YtehmbcpgendkjaaRows
import Derived.Test.YtehmbcpgendkjaaOpen
import Derived.Test.YtehmbcpgendkjaaStepsLaw
namespace Go.Proofs.Ytehmbcpgendkjaa.ballotSteps
open Go.ChangeShapes Go.WideShapes Go.ChangeAt Go.RowKit
set_option linter.unusedVariables false
theorem own : ownKnob Try.prog.godebug = none := by kernel_rfl
theorem laidOut : laidOutB Try.prog = true := by kernel_rfl
set_option maxRecDepth 100000 in
theorem lifted (os : Os) (started : os.Started) (H : Type) (enc : TypeId × Value → H) :
    ReturnsInHanded {} Try.checked os 9 .any (Rows.ballotStepsSpec.pre6 enc Try.prog Try.f9 Rows.ballotStepsRow.domain false) (Rows.ballotStepsSpec.post enc Try.prog Try.f9 false true false false) := by
  refine returnsInHanded_of_change_sized (C := Try.checked) own started (by kernel_rfl) Try.func9
    (ChangeSpec.witness6 (enc := enc) (C := Try.checked) false ⟨#[], #[.agg #[.int .i64 0, .int .i64 0, .int .u64 0, .int .u64 0, .int .u64 0, .int .u64 0, .int .u64 0, .int .u64 0, .int .u64 0, .int .u64 0], .agg #[.int .u64 0, .int .i64 0], .int .i64 0, .int .u64 0], []⟩ 8 (by kernel_rfl) (by kernel_rfl) (by kernel_rfl) (by kernel_rfl)) ?_
  intro W base args ds gs before hval0 hW hcnd hsz0 _
  have hval : ∀ (j : Nat) t v, Try.f9.params[j]? = some t → args[j]? = some v → Value.okWide Try.prog W .any base t v := hval0
  have hW' := hW
  obtain ⟨p, q, hA0, hV, rfl, hfz, hnd⟩ := hW
  have hA : DataW.TrodAll enc Try.prog W 0 (fun _ => true) true Try.f9.params.toList args.toList ds p := hA0
  rw [Try.params9] at hA hval
  obtain ⟨v0, vs0, d0, ds0, p0, q0, hargs, rfl, rfl, h0, r0⟩ := trodAll_cons hA
  obtain ⟨v1, vs1, d1, ds1, p1, q1, rfl, rfl, rfl, h1, r1⟩ := trodAll_cons r0
  obtain ⟨v2, vs2, d2, ds2, p2, q2, rfl, rfl, rfl, h2, r2⟩ := trodAll_cons r1
  obtain ⟨v3, vs3, d3, ds3, p3, q3, rfl, rfl, rfl, h3, r3⟩ := trodAll_cons r2
  obtain ⟨rfl, rfl, rfl⟩ := trodAll_nil r3
  obtain rfl : args = #[v0, v1, v2, v3] := by cases args; simp_all
  obtain ⟨rfl, rfl⟩ := trodVars_none hV
  have k0 := h0
  have lt0 : ∀ x ∈ p0, x.block < W.heap.size := by obtain ⟨m, hm⟩ := k0; exact DataW.trod_lt m _ _ _ hm
  have k1 := h1
  have lt1 : ∀ x ∈ p1, x.block < W.heap.size := by obtain ⟨m, hm⟩ := k1; exact DataW.trod_lt m _ _ _ hm
  have k2 := h2
  have lt2 : ∀ x ∈ p2, x.block < W.heap.size := by obtain ⟨m, hm⟩ := k2; exact DataW.trod_lt m _ _ _ hm
  have k3 := h3
  have lt3 : ∀ x ∈ p3, x.block < W.heap.size := by obtain ⟨m, hm⟩ := k3; exact DataW.trod_lt m _ _ _ hm
  obtain ⟨cs0, rfl, z0_0⟩ := Sh.open_struct (s := Sh.pair (Sh.int .i64) (Sh.pair (Sh.int .i64) (Sh.pair (Sh.int .u64) (Sh.pair (Sh.int .u64) (Sh.pair (Sh.int .u64) (Sh.pair (Sh.int .u64) (Sh.pair (Sh.int .u64) (Sh.pair (Sh.int .u64) (Sh.pair (Sh.int .u64) (Sh.pair (Sh.int .u64) (Sh.unit))))))))))) Try.underlying32 (by kernel_rfl) (hval 0 32 v0 rfl rfl) h0
  obtain ⟨c0_0, r0_0, rfl, ⟨a0_0, rfl, x0_0⟩, z0_1⟩ := Sh.holds_pair z0_0
  obtain ⟨c0_1, r0_1, rfl, ⟨a0_1, rfl, x0_1⟩, z0_2⟩ := Sh.holds_pair z0_1
  obtain ⟨c0_2, r0_2, rfl, ⟨a0_2, rfl, x0_2⟩, z0_3⟩ := Sh.holds_pair z0_2
  obtain ⟨c0_3, r0_3, rfl, ⟨a0_3, rfl, x0_3⟩, z0_4⟩ := Sh.holds_pair z0_3
  obtain ⟨c0_4, r0_4, rfl, ⟨a0_4, rfl, x0_4⟩, z0_5⟩ := Sh.holds_pair z0_4
  obtain ⟨c0_5, r0_5, rfl, ⟨a0_5, rfl, x0_5⟩, z0_6⟩ := Sh.holds_pair z0_5
  obtain ⟨c0_6, r0_6, rfl, ⟨a0_6, rfl, x0_6⟩, z0_7⟩ := Sh.holds_pair z0_6
  obtain ⟨c0_7, r0_7, rfl, ⟨a0_7, rfl, x0_7⟩, z0_8⟩ := Sh.holds_pair z0_7
  obtain ⟨c0_8, r0_8, rfl, ⟨a0_8, rfl, x0_8⟩, z0_9⟩ := Sh.holds_pair z0_8
  obtain ⟨c0_9, r0_9, rfl, ⟨a0_9, rfl, x0_9⟩, z0_10⟩ := Sh.holds_pair z0_9
  obtain rfl := Sh.holds_unit z0_10
  obtain ⟨cs1, rfl, z1_0⟩ := Sh.open_struct (s := Sh.pair (Sh.int .u64) (Sh.pair (Sh.int .i64) (Sh.unit))) Try.underlying27 (by kernel_rfl) (hval 1 27 v1 rfl rfl) h1
  obtain ⟨c1_0, r1_0, rfl, ⟨a1_0, rfl, x1_0⟩, z1_1⟩ := Sh.holds_pair z1_0
  obtain ⟨c1_1, r1_1, rfl, ⟨a1_1, rfl, x1_1⟩, z1_2⟩ := Sh.holds_pair z1_1
  obtain rfl := Sh.holds_unit z1_2
  obtain ⟨a2, rfl, x2⟩ := Sh.open_int (k := .i64) Try.underlying3 (hval 2 3 v2 rfl rfl) h2
  obtain ⟨a3, rfl, x3⟩ := Sh.open_int (k := .u64) Try.underlying25 (hval 3 25 v3 rfl rfl) h3
  clear hA0 hval0 hsz0
  refine (steps_law a0_0 a0_1 a0_2 a0_3 a0_4 a0_5 a0_6 a0_7 a0_8 a0_9 a1_0 a1_1 a2 a3 W x0_0 x0_1 x0_2 x0_3 x0_4 x0_5 x0_6 x0_7 x0_8 x0_9 x1_0 x1_1 x2 x3).mono fun e W' ⟨he, bel⟩ => ?_
  subst he
  exact ⟨_, rfl, _, _, _, [], _, [], hW', trodAll_mk1 (shut_bool Try.underlying4 _), (trodAll_cons_mk (Below.trod laidOut (by kernel_rfl) (of_decide_eq_true (by kernel_rfl)) k0 bel lt0) (trodAll_cons_mk (Below.trod laidOut (by kernel_rfl) (of_decide_eq_true (by kernel_rfl)) k1 bel lt1) (trodAll_cons_mk (Below.trod laidOut (by kernel_rfl) (of_decide_eq_true (by kernel_rfl)) k2 bel lt2) (trodAll_cons_mk (Below.trod laidOut (by kernel_rfl) (of_decide_eq_true (by kernel_rfl)) k3 bel lt3) trodAll_mk0)))), rfl, bel.frame _, fun h => by cases h⟩
theorem over : Rows.ballotStepsRow.holds Try.pinned (OpenSpec.ofChange Rows.ballotStepsSpec) :=
  OpenClaim.holds_of_wide 9 Try.f9 rfl rfl rfl rfl rfl rfl rfl ⟨rfl, rfl, rfl, rfl, rfl⟩ rfl rfl rfl rfl rfl (by kernel_rfl) Try.func9 (by kernel_rfl)
    (of_decide_eq_true (by kernel_rfl)) (by unfold Func.isWrapper; first | (rw [if_pos (by decide +kernel)]; kernel_rfl) | (rw [if_neg (by decide +kernel)]; exact ⟨rfl, rfl⟩))
    (fun os started H enc _ => lifted os started H enc)
end Go.Proofs.Ytehmbcpgendkjaa.ballotSteps
namespace Go.Proofs.Ytehmbcpgendkjaa
theorem ballotSteps_holds : Rows.BallotStepsSaid := ballotSteps.over
end Go.Proofs.Ytehmbcpgendkjaa
