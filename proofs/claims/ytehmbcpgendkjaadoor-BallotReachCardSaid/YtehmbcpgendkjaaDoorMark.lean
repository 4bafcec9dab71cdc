import Derived.Test.YtehmbcpgendkjaaDoorSort
import Derived.OwnWalk
import Derived.Lib.SliceRun
import Derived.Deep.AppendLies
namespace Go.Proofs.YtehmbcpgendkjaaDoor
open Go.RowKit
set_option linter.unusedSimpArgs false
set_option linter.unusedVariables false
theorem numInfo : (Tryd.prog.info? 22).map (fun i => (i.zero, i.size, i.bytes)) = some (some (.int .u64 0), 1, 8) := by kernel_rfl
set_option maxRecDepth 100000 in
set_option maxHeartbeats 1600000 in
theorem clone_at (b off n c : Nat) (zs : List Int) (w : World) (hl : zs.length = n) (h0 : 0 < n) (hn : n ≤ 12) (hc : ∀ j, j < n → w.cell? ⟨b, off + j, none⟩ = some (.int .u64 (zs.getD j 0))) :
    Calls Tryd.prog 66 #[.slice (some ⟨b, off, none⟩) n c] w fun e w' => ∃ g cap, e = .returned (.slice (some ⟨g, 0, none⟩) n cap) ∧ RowU w' w.heap.size g n cap zs ∧ Below w.heap.size w w' := by
  obtain ⟨i0, hi, hz0, hz1, hz2⟩ := info_parts numInfo
  have q22 : ∀ (w : World) (a : Option Addr) (n c n' c' : Nat), (binOp .eql 83 (.slice a n c) (.slice none n' c')).run Tryd.prog w = .ok (.bool a.isNone) w := fun w a n c n' c' => Lib.run_eql_slice_nil w _ _ a n c n' c' Tryd.underlying83
  have u22 : ∀ w, Sem.run Tryd.prog (underlying 83) w = .ok (TypeDesc.slice 22) w := run_underlying Tryd.underlying83
  have HC := Lib.hid hc
  clear hc
  go_enter Tryd.func66, Tryd.ntmps66
  go_wp2_with (at_builtin; go_loud (refine wpList_append_own _ rfl _ _ 83 rfl w.heap.size 22 i0 _ 1 8 Tryd.underlying83 hi hz0 hz1 hz2 rfl (by omega) _ _ _ rfl (World.ownsRow_made w #[] 0 (Nat.le_refl _) (Nat.zero_le _) (by simp)) ⟨b, off, none⟩ n c (zs.map (Value.int .u64)) rfl ?qc1 ?qc2 ?qc3 ?qc4 ?qc5 ?qc6 ?_))
  case qc1 => simpa using hl
  case qc2 =>
    intro j u hj
    rw [Addr.add_lit]
    have hj' : j < n := by
      have := (List.getElem?_eq_some_iff.1 hj).1
      simpa [hl] using this
    have hu : u = .int .u64 (zs.getD j 0) := by
      simp [List.getElem?_map, List.getElem?_eq_getElem (show j < zs.length by omega)] at hj
      rw [← hj]; simp [List.getD_eq_getElem?_getD, show j < zs.length by omega]
    rw [hu]
    exact Lib.cell?_alloc_some _ (HC.out j hj')
  case qc3 => exact ints_oneCell _ _
  case qc4 => rw [Nat.zero_add]; unfold maxLen; omega
  case qc5 => omega
  case qc6 => simp
  intro v' w1 hown hgrow hnil
  obtain ⟨g, cap, hv, hg1, hg2⟩ := hown.form (by omega)
  replace hv := Lib.hid hv
  go_wp2
  go_ret
  refine ⟨g, cap, ?_, ?_, ?_⟩
  · have h_ := hv.out
    simpa using h_
  · have h_ := hv.out
    unfold RowU
    rw [h_] at hown
    simpa using hown
  · exact ((Below.refl _ w).alloc (Nat.le_refl _) _).grown hgrow (by simp) (by intro k hk; simp [Value.ownBlock] at hk; omega)
end Go.Proofs.YtehmbcpgendkjaaDoor
