/- BallotTotal returns true for every input, and each argument reads behind the call as it read before; no condition. -/
import Derived.Test.YtehmbcpgendkjaaRows
import Derived.Test.YtehmbcpgendkjaaOpen
import Derived.Test.YtehmbcpgendkjaaTotal
namespace Go.Proofs.Ytehmbcpgendkjaa.ballotTotal
open Go.ChangeShapes Go.WideShapes Go.ChangeAt Go.RowKit
set_option linter.unusedVariables false
theorem own : ownKnob Try.prog.godebug = none := by kernel_rfl
theorem laidOut : laidOutB Try.prog = true := by kernel_rfl
set_option maxRecDepth 100000 in
theorem lifted (os : Os) (started : os.Started) (H : Type) (enc : TypeId × Value → H) :
    ReturnsInHanded {} Try.checked os 4 .any (Rows.ballotTotalSpec.pre6 enc Try.prog Try.f4 Rows.ballotTotalRow.domain false) (Rows.ballotTotalSpec.post enc Try.prog Try.f4 false true false false) := by
  refine returnsInHanded_of_change_sized (C := Try.checked) own started (by kernel_rfl) Try.func4
    (ChangeSpec.witness6 (enc := enc) (C := Try.checked) false ⟨#[], #[.agg #[.int .u64 0, .int .i64 0], .agg #[.int .u64 0, .int .i64 0], .agg #[.int .u64 0, .int .i64 0]], []⟩ 8 (by kernel_rfl) (by kernel_rfl) (by kernel_rfl) (by kernel_rfl)) ?_
  intro W base args ds gs before hval0 hW hcnd hsz0 _
  have hval : ∀ (j : Nat) t v, Try.f4.params[j]? = some t → args[j]? = some v → Value.okWide Try.prog W .any base t v := hval0
  have hW' := hW
  obtain ⟨p, q, hA0, hV, rfl, hfz, hnd⟩ := hW
  have hA : DataW.TrodAll enc Try.prog W 0 (fun _ => true) true Try.f4.params.toList args.toList ds p := hA0
  rw [Try.params4] at hA hval
  obtain ⟨v0, vs0, d0, ds0, p0, q0, hargs, rfl, rfl, h0, r0⟩ := trodAll_cons hA
  obtain ⟨v1, vs1, d1, ds1, p1, q1, rfl, rfl, rfl, h1, r1⟩ := trodAll_cons r0
  obtain ⟨v2, vs2, d2, ds2, p2, q2, rfl, rfl, rfl, h2, r2⟩ := trodAll_cons r1
  obtain ⟨rfl, rfl, rfl⟩ := trodAll_nil r2
  obtain rfl : args = #[v0, v1, v2] := by cases args; simp_all
  obtain ⟨rfl, rfl⟩ := trodVars_none hV
  have k0 := h0
  have lt0 : ∀ x ∈ p0, x.block < W.heap.size := by obtain ⟨m, hm⟩ := k0; exact DataW.trod_lt m _ _ _ hm
  have k1 := h1
  have lt1 : ∀ x ∈ p1, x.block < W.heap.size := by obtain ⟨m, hm⟩ := k1; exact DataW.trod_lt m _ _ _ hm
  have k2 := h2
  have lt2 : ∀ x ∈ p2, x.block < W.heap.size := by obtain ⟨m, hm⟩ := k2; exact DataW.trod_lt m _ _ _ hm
  obtain ⟨cs0, rfl, z0_0⟩ := Sh.open_struct (s := Sh.pair (Sh.int .u64) (Sh.pair (Sh.int .i64) (Sh.unit))) Try.underlying27 (by kernel_rfl) (hval 0 27 v0 rfl rfl) h0
  obtain ⟨c0_0, r0_0, rfl, ⟨a0_0, rfl, x0_0⟩, z0_1⟩ := Sh.holds_pair z0_0
  obtain ⟨c0_1, r0_1, rfl, ⟨a0_1, rfl, x0_1⟩, z0_2⟩ := Sh.holds_pair z0_1
  obtain rfl := Sh.holds_unit z0_2
  obtain ⟨cs1, rfl, z1_0⟩ := Sh.open_struct (s := Sh.pair (Sh.int .u64) (Sh.pair (Sh.int .i64) (Sh.unit))) Try.underlying27 (by kernel_rfl) (hval 1 27 v1 rfl rfl) h1
  obtain ⟨c1_0, r1_0, rfl, ⟨a1_0, rfl, x1_0⟩, z1_1⟩ := Sh.holds_pair z1_0
  obtain ⟨c1_1, r1_1, rfl, ⟨a1_1, rfl, x1_1⟩, z1_2⟩ := Sh.holds_pair z1_1
  obtain rfl := Sh.holds_unit z1_2
  obtain ⟨cs2, rfl, z2_0⟩ := Sh.open_struct (s := Sh.pair (Sh.int .u64) (Sh.pair (Sh.int .i64) (Sh.unit))) Try.underlying27 (by kernel_rfl) (hval 2 27 v2 rfl rfl) h2
  obtain ⟨c2_0, r2_0, rfl, ⟨a2_0, rfl, x2_0⟩, z2_1⟩ := Sh.holds_pair z2_0
  obtain ⟨c2_1, r2_1, rfl, ⟨a2_1, rfl, x2_1⟩, z2_2⟩ := Sh.holds_pair z2_1
  obtain rfl := Sh.holds_unit z2_2
  clear hA0 hval0 hsz0
  refine (total_law a0_0 a0_1 a1_0 a1_1 a2_0 a2_1 W x0_0 x0_1 x1_0 x1_1 x2_0 x2_1).mono fun e W' ⟨he, bel⟩ => ?_
  subst he
  exact ⟨_, rfl, _, _, _, [], _, [], hW', trodAll_mk1 (shut_bool Try.underlying4 _), (trodAll_cons_mk (Below.trod laidOut (by kernel_rfl) (of_decide_eq_true (by kernel_rfl)) k0 bel lt0) (trodAll_cons_mk (Below.trod laidOut (by kernel_rfl) (of_decide_eq_true (by kernel_rfl)) k1 bel lt1) (trodAll_cons_mk (Below.trod laidOut (by kernel_rfl) (of_decide_eq_true (by kernel_rfl)) k2 bel lt2) trodAll_mk0))), rfl, bel.frame _, fun h => by cases h⟩
theorem over : Rows.ballotTotalRow.holds Try.pinned (OpenSpec.ofChange Rows.ballotTotalSpec) :=
  OpenClaim.holds_of_wide 4 Try.f4 rfl rfl rfl rfl rfl rfl rfl ⟨rfl, rfl, rfl, rfl, rfl⟩ rfl rfl rfl rfl rfl (by kernel_rfl) Try.func4 (by kernel_rfl)
    (of_decide_eq_true (by kernel_rfl)) (by unfold Func.isWrapper; first | (rw [if_pos (by decide +kernel)]; kernel_rfl) | (rw [if_neg (by decide +kernel)]; exact ⟨rfl, rfl⟩))
    (fun os started H enc _ => lifted os started H enc)
end Go.Proofs.Ytehmbcpgendkjaa.ballotTotal
namespace Go.Proofs.Ytehmbcpgendkjaa
theorem ballotTotal_holds : Rows.BallotTotalSaid := ballotTotal.over
end Go.Proofs.Ytehmbcpgendkjaa
