import Derived.Test.YtehmbcpgendkjaaOwn
namespace Go.Proofs.Ytehmbcpgendkjaa
open Go.RowKit
set_option linter.unusedSimpArgs false
set_option linter.unusedVariables false
set_option maxHeartbeats 1600000 in
theorem zero_err (v : Value) (w : World) (he : ErrIs w [(ballotS, 0)] 3 v) : Calls Try.prog 29 #[v] w fun e w' => e = .returned (.bool true) ∧ Below w.heap.size w w' := by
  go_enter Try.func29, Try.ntmps29
  go_wp2_with fail
  refine (told_any _ _ _ _ he (by simp) (by simp) (by omega)).mono ?_
  rintro e wa ⟨s, rfl, ho, hb_wa⟩
  rcases LnkAt.of_owns ho with ⟨h, _⟩ | ⟨g, cap, rfl, hg1, hg2⟩
  · exact absurd h (by simp)
  · have hc_wa := (bcell hb_wa).1
    have hf_wa := (bcell hb_wa).2
    have k0 : wa.cell? ⟨g, 0, none⟩ = some (.string ⟨#[98, 97, 108, 108, 111, 116]⟩) := hg2 0 _ rfl
    have k1 : wa.cell? ⟨g, 1, none⟩ = some (.int .i64 0) := hg2 1 _ rfl
    clear ho hg2 he
    go_wp2
    go_ret
    exact ⟨by simp, (by repeat (first | exact Below.refl _ _ | exact hb_wa | refine Below.on ?_ hb_wa | refine Below.alloc_ ?_ _ | refine Below.drew ?_ | refine below_drewN ?_ | refine Below.setCell ?_ (by first | (simp; done) | (simp; omega)) _))⟩
end Go.Proofs.Ytehmbcpgendkjaa
