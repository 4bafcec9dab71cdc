/- BallotReach returns true for every input, and each argument reads behind the call as it read before; the library's table of lowest bits lies as the program's text lays it (the card ties that). -/
import Derived.Test.YtehmbcpgendkjaaDoorCards
import Derived.Test.YtehmbcpgendkjaaDoorTie
import Derived.Test.YtehmbcpgendkjaaDoorOpen
import Derived.Test.YtehmbcpgendkjaaDoorReach
import Derived.WalkKit
import Derived.ProofKit
import Derived.OpenShut
import Derived.Deep.DeepHandedRow
import Derived.Lib.LaidTab
namespace Go.Proofs.YtehmbcpgendkjaaDoor.ballotReach
open Go.ChangeShapes Go.WideShapes Go.ChangeAt Go.RowKit
set_option linter.unusedVariables false
theorem own : ownKnob Tryd.prog.godebug = none := by kernel_rfl
theorem laidOut : laidOutB Tryd.prog = true := by kernel_rfl
theorem gTab : Tryd.prog.globalNamed "math/bits.deBruijn32tab" = some 0 := by kernel_rfl
theorem gTabType : (Tryd.prog.globals[0]?).map (·.type) = some 119 := by kernel_rfl
theorem cellsT : Tryd.prog.cellsOf 119 = 32 := by kernel_rfl
theorem cellsE : Tryd.prog.cellsOf 5 = 1 := by kernel_rfl
theorem table {W : World} (h : laidMetH Tryd.prog Rows.ballotReachRow.laid W) : Lib.TabIs Tryd.prog W "math/bits.deBruijn32tab" .u8 [0, 1, 28, 2, 29, 14, 24, 3, 30, 22, 20, 15, 25, 17, 4, 8, 31, 27, 13, 23, 21, 19, 16, 7, 26, 12, 18, 6, 11, 5, 10, 9] :=
  Lib.tabIs_of_head (rest := []) gTab gTabType Tryd.underlying119 Tryd.underlying5 cellsE cellsT h
set_option maxRecDepth 100000 in
theorem tab_list : ∀ j, j < 32 → ([0, 1, 28, 2, 29, 14, 24, 3, 30, 22, 20, 15, 25, 17, 4, 8, 31, 27, 13, 23, 21, 19, 16, 7, 26, 12, 18, 6, 11, 5, 10, 9] : List Int).getD j 0 = ((Lib.deBruijn32tab.getD j 0 : Nat) : Int) := by decide +kernel
set_option maxRecDepth 100000 in
theorem tab_met {W : World} (h : laidMetH Tryd.prog Rows.ballotReachRow.laid W) : Tab W := by
  have h1 : ∀ j, j < 32 → W.cell? ⟨0, j, none⟩ = some (.int .u8 (([0, 1, 28, 2, 29, 14, 24, 3, 30, 22, 20, 15, 25, 17, 4, 8, 31, 27, 13, 23, 21, 19, 16, 7, 26, 12, 18, 6, 11, 5, 10, 9] : List Int).getD j 0)) := fun j hj => (table h).cell gTab j hj
  refine ⟨?_, fun j hj => (h1 j hj).trans (by rw [tab_list j hj])⟩
  have h0 := h1 0 (by decide)
  unfold World.cell? at h0
  by_cases hlt : 0 < W.heap.size
  · exact hlt
  · have h2 : W.heap[0]? = none := Array.getElem?_eq_none (by omega)
    simp [h2] at h0

set_option maxRecDepth 100000 in
theorem contract (H : Type) (enc : TypeId × Value → H) (W : World) (base : Nat) (args : Array Value) (ds gs : List (DataW H)) (before : List MemPlace)
    (hval : ∀ (j : Nat) t v, Tryd.f8.params[j]? = some t → args[j]? = some v → Value.okWide Tryd.prog W .any base t v)
    (hW : DataW.Whole enc Tryd.prog Tryd.f8.params.toList Rows.ballotReachSpec.vars false W args.toList ds gs before) (hL : laidMetH Tryd.prog Rows.ballotReachRow.laid W) :
    Calls Tryd.prog 8 args W fun e W' => ∃ v, e = .returned v ∧ Rows.ballotReachSpec.post enc Tryd.prog Tryd.f8 false true false false W args v W' := by
  have hW' := hW
  obtain ⟨p, q, hA0, hV, rfl, hfz, hnd⟩ := hW
  have hA : DataW.TrodAll enc Tryd.prog W 0 (fun _ => true) true Tryd.f8.params.toList args.toList ds p := hA0
  rw [Tryd.params8] at hA hval
  obtain ⟨v0, vs0, d0, ds0, p0, q0, hargs, rfl, rfl, h0, r0⟩ := trodAll_cons hA
  obtain ⟨v1, vs1, d1, ds1, p1, q1, rfl, rfl, rfl, h1, r1⟩ := trodAll_cons r0
  obtain ⟨rfl, rfl, rfl⟩ := trodAll_nil r1
  obtain rfl : args = #[v0, v1] := by cases args; simp_all
  obtain ⟨rfl, rfl⟩ := trodVars_none hV
  have k0 := h0
  have lt0 : ∀ x ∈ p0, x.block < W.heap.size := by obtain ⟨m, hm⟩ := k0; exact DataW.trod_lt m _ _ _ hm
  have k1 := h1
  have lt1 : ∀ x ∈ p1, x.block < W.heap.size := by obtain ⟨m, hm⟩ := k1; exact DataW.trod_lt m _ _ _ hm
  obtain ⟨cs0, rfl, z0_0⟩ := Sh.open_struct (s := Sh.pair (Sh.int .i64) (Sh.pair (Sh.int .i64) (Sh.pair (Sh.int .u64) (Sh.pair (Sh.int .u64) (Sh.pair (Sh.int .u64) (Sh.pair (Sh.int .u64) (Sh.pair (Sh.int .u64) (Sh.pair (Sh.int .u64) (Sh.pair (Sh.int .u64) (Sh.pair (Sh.int .u64) (Sh.unit))))))))))) Tryd.underlying24 (by kernel_rfl) (hval 0 24 v0 rfl rfl) h0
  obtain ⟨c0_0, r0_0, rfl, ⟨a0_0, rfl, x0_0⟩, z0_1⟩ := Sh.holds_pair z0_0
  obtain ⟨c0_1, r0_1, rfl, ⟨a0_1, rfl, x0_1⟩, z0_2⟩ := Sh.holds_pair z0_1
  obtain ⟨c0_2, r0_2, rfl, ⟨a0_2, rfl, x0_2⟩, z0_3⟩ := Sh.holds_pair z0_2
  obtain ⟨c0_3, r0_3, rfl, ⟨a0_3, rfl, x0_3⟩, z0_4⟩ := Sh.holds_pair z0_3
  obtain ⟨c0_4, r0_4, rfl, ⟨a0_4, rfl, x0_4⟩, z0_5⟩ := Sh.holds_pair z0_4
  obtain ⟨c0_5, r0_5, rfl, ⟨a0_5, rfl, x0_5⟩, z0_6⟩ := Sh.holds_pair z0_5
  obtain ⟨c0_6, r0_6, rfl, ⟨a0_6, rfl, x0_6⟩, z0_7⟩ := Sh.holds_pair z0_6
  obtain ⟨c0_7, r0_7, rfl, ⟨a0_7, rfl, x0_7⟩, z0_8⟩ := Sh.holds_pair z0_7
  obtain ⟨c0_8, r0_8, rfl, ⟨a0_8, rfl, x0_8⟩, z0_9⟩ := Sh.holds_pair z0_8
  obtain ⟨c0_9, r0_9, rfl, ⟨a0_9, rfl, x0_9⟩, z0_10⟩ := Sh.holds_pair z0_9
  obtain rfl := Sh.holds_unit z0_10
  have x1 := Sh.open_slice' (e := (Sh.int .u64)) Tryd.underlying83 (by kernel_rfl) (hval 1 83 v1 rfl rfl) h1
  clear hA0
  refine (reach_law a0_0 a0_1 a0_2 a0_3 a0_4 a0_5 a0_6 a0_7 a0_8 a0_9 v1 W x0_0 x0_1 x0_2 x0_3 x0_4 x0_5 x0_6 x0_7 x0_8 x0_9 x1 (tab_met hL)).mono fun e W' ⟨he, bel⟩ => ?_
  subst he
  exact ⟨_, rfl, _, _, _, [], _, [], hW', trodAll_mk1 (shut_bool Tryd.underlying4 _), (trodAll_cons_mk (Below.trod laidOut (by kernel_rfl) (of_decide_eq_true (by kernel_rfl)) k0 bel lt0) (trodAll_cons_mk (Below.trod laidOut (by kernel_rfl) (of_decide_eq_true (by kernel_rfl)) k1 bel lt1) trodAll_mk0)), rfl, bel.frame _, fun h => by cases h⟩

noncomputable def laidWorld (os : Os) : World :=
  { World.holding Tryd.prog os ⟨#[], #[], []⟩ with heap := (World.holding Tryd.prog os ⟨#[], #[], []⟩).heap.modify 0 fun
      | .cells _ t frozen => .cells #[.int .u8 0, .int .u8 1, .int .u8 28, .int .u8 2, .int .u8 29, .int .u8 14, .int .u8 24, .int .u8 3, .int .u8 30, .int .u8 22, .int .u8 20, .int .u8 15, .int .u8 25, .int .u8 17, .int .u8 4, .int .u8 8, .int .u8 31, .int .u8 27, .int .u8 13, .int .u8 23, .int .u8 21, .int .u8 19, .int .u8 16, .int .u8 7, .int .u8 26, .int .u8 12, .int .u8 18, .int .u8 6, .int .u8 11, .int .u8 5, .int .u8 10, .int .u8 9] t frozen
      | o => o }
theorem laid_met (os : Os) : laidMet Tryd.prog Rows.ballotReachRow.laid ((laidWorld os).forCall (fun _ _ => 0) ⟨#[], #[.agg #[.int .i64 0, .int .i64 0, .int .u64 0, .int .u64 0, .int .u64 0, .int .u64 0, .int .u64 0, .int .u64 0, .int .u64 0, .int .u64 0], .slice none 0 0], []⟩).memory :=
  laidMet_of_run' 8 (by kernel_rfl) (by kernel_rfl)
theorem reads (os : Os) {H : Type} (enc : TypeId × Value → H) : ∃ places, DataW.whole enc Tryd.prog ((laidWorld os).forCall (fun _ _ => 0) ⟨#[], #[.agg #[.int .i64 0, .int .i64 0, .int .u64 0, .int .u64 0, .int .u64 0, .int .u64 0, .int .u64 0, .int .u64 0, .int .u64 0, .int .u64 0], .slice none 0 0], []⟩).memory Tryd.f8.params.toList Rows.ballotReachSpec.vars false (#[.agg #[.int .i64 0, .int .i64 0, .int .u64 0, .int .u64 0, .int .u64 0, .int .u64 0, .int .u64 0, .int .u64 0, .int .u64 0, .int .u64 0], .slice none 0 0] : Array Value).toList 8 = some ([.agg [.lit (.int .i64 0), .lit (.int .i64 0), .lit (.int .u64 0), .lit (.int .u64 0), .lit (.int .u64 0), .lit (.int .u64 0), .lit (.int .u64 0), .lit (.int .u64 0), .lit (.int .u64 0), .lit (.int .u64 0)], .nil], [], places) :=
  ⟨[], by kernel_rfl⟩

set_option maxRecDepth 100000 in
theorem lifted (os : Os) (started : os.Started) (H : Type) (enc : TypeId × Value → H) (F : Stop.Interp) :
    ReturnsInHanded {} Tryd.checked os 8 .any ((OpenSpec.ofChange Rows.ballotReachSpec).preRow enc Tryd.prog Tryd.f8 Rows.ballotReachRow.domain false Rows.ballotReachRow.laid) (((OpenSpec.ofChange Rows.ballotReachSpec).at F).post enc Tryd.prog Tryd.f8 false true false false) := by
  obtain ⟨places, hx⟩ := reads os enc
  refine returnsInHanded_of_row (C := Tryd.checked) (s := OpenSpec.ofChange Rows.ballotReachSpec) own started (by kernel_rfl) Tryd.func8
    (witness_row_at (enc := enc) (C := Tryd.checked) false (laidWorld os) #[.agg #[.int .i64 0, .int .i64 0, .int .u64 0, .int .u64 0, .int .u64 0, .int .u64 0, .int .u64 0, .int .u64 0, .int .u64 0, .int .u64 0], .slice none 0 0] rfl (by kernel_rfl) (by kernel_rfl) (by kernel_rfl)
      (OpenSpec.preRow_of_cond 8 hx (by kernel_rfl) (fun k hk => by cases hk) (by kernel_rfl) (laid_met os))) ?_
  intro W base args ds gs before hval hW _ _ _ hL _ _
  exact contract H enc W base args ds gs before hval hW hL
theorem said : Rows.BallotReachSaid :=
  OpenClaim.holds_of_cond 8 Tryd.f8 rfl rfl rfl rfl rfl rfl rfl ⟨rfl, rfl, rfl, rfl, rfl⟩ rfl rfl rfl rfl rfl (by kernel_rfl) Tryd.func8 (by kernel_rfl)
    (of_decide_eq_true (by kernel_rfl)) (by unfold Func.isWrapper; first | (rw [if_pos (by decide +kernel)]; kernel_rfl) | (rw [if_neg (by decide +kernel)]; exact ⟨rfl, rfl⟩))
    (fun os started H enc _ F => by rw [OpenClaim.pre_eq_preRow]; exact lifted os started H enc F)
theorem plain (f : FuncId) (fn : Func) (hf : Tryd.pinned.checked.prog.funcNamed "quorum/quorumlaw9.BallotReach" = some f) (hfn : Tryd.pinned.checked.prog.funcs[f]? = some fn) :
    true = Tryd.pinned.checked.prog.looks [] ∧ ∀ (j : Nat) t, fn.params[j]? = some t → Tryd.pinned.checked.prog.wantsStandIn t = false := by
  obtain rfl : f = 8 := Option.some.inj ((show Tryd.prog.funcNamed "quorum/quorumlaw9.BallotReach" = some 8 by kernel_rfl).symm.trans hf) |>.symm
  obtain rfl : fn = Tryd.f8 := (Option.some.inj (Tryd.func8.symm.trans hfn)).symm
  refine ⟨by kernel_rfl, fun j t ht => ?_⟩
  rw [Tryd.params8] at ht
  have h1 := Array.mem_of_getElem? ht
  simp only [List.mem_toArray, List.mem_cons, List.not_mem_nil, or_false] at h1
  rcases h1 with rfl | rfl
  · exact (show Tryd.prog.wantsStandIn 24 = false by kernel_rfl)
  · exact (show Tryd.prog.wantsStandIn 83 = false by kernel_rfl)
end Go.Proofs.YtehmbcpgendkjaaDoor.ballotReach
namespace Go.Proofs.YtehmbcpgendkjaaDoor
theorem ballotReach_card : Rows.BallotReachCardSaid :=
  Claim7.holds_tied_plain_at .later [] _ _ _ _ ballotReach.said (fun _ h => by cases h) (by kernel_rfl) (fun _ h => by cases h) ballotReach_row_tie rfl ⟨rfl, rfl⟩ (by kernel_rfl) rfl ballotReach.plain (by kernel_rfl)
end Go.Proofs.YtehmbcpgendkjaaDoor
