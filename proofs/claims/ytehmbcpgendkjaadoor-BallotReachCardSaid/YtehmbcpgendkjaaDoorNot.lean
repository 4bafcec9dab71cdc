import Derived.Test.YtehmbcpgendkjaaDoorGrp
namespace Go.Proofs.YtehmbcpgendkjaaDoor
open Go.RowKit
set_option linter.unusedSimpArgs false
set_option linter.unusedVariables false
/-- A group that no New made. -/
def NotMade (w : World) (p : Option Addr) : Prop := p = none ∨ ∃ b, p = some ⟨b, 0, none⟩ ∧ b < w.heap.size ∧ w.cell? ⟨b, 10, none⟩ = some (.int .i64 0)
theorem NotMade.below {w w' : World} {p : Option Addr} (h : NotMade w p) (hb : Below w.heap.size w w') : NotMade w' p := by
  rcases h with h | ⟨b, h1, h2, h3⟩
  · exact .inl h
  · exact .inr ⟨b, h1, Nat.lt_of_lt_of_le h2 hb.size, (hb.cell (p := ⟨b, 10, none⟩) h2).trans h3⟩
theorem made_not (p : Option Addr) (w : World) (h : NotMade w p) : Calls Tryd.prog 54 #[.pointer p] w fun e w' => e = .returned (.bool false) ∧ w = w' := by
  rcases h with rfl | ⟨b, rfl, _, h⟩
  · exact made_nil w
  · exact made_at b 0 w h
theorem nodes_not (p : Option Addr) (w : World) (h : NotMade w p) : Calls Tryd.prog 22 #[.pointer p] w fun e w' => e = .returned (.int .i64 0) ∧ w = w' := by
  have M := Lib.hid (made_not p w h)
  clear h
  go_enter Tryd.func22, Tryd.ntmps22
  go_wp2_with (go_at_call 54; refine M.out.mono ?_; rintro e w1 ⟨rfl, rfl⟩)
  go_ret
  exact ⟨rfl, rfl⟩
theorem node_not (p : Option Addr) (x : Int) (w : World) (h : NotMade w p) : Calls Tryd.prog 25 #[.pointer p, .int .i64 x] w fun e w' => e = .returned (.bool false) ∧ w = w' := by
  have M := Lib.hid (made_not p w h)
  clear h
  go_enter Tryd.func25, Tryd.ntmps25
  go_wp2_with (go_at_call 54; refine M.out.mono ?_; rintro e w1 ⟨rfl, rfl⟩)
  go_ret
  exact ⟨rfl, rfl⟩
theorem quorum_not (p : Option Addr) (w : World) (h : NotMade w p) : Calls Tryd.prog 24 #[.pointer p] w fun e w' => e = .returned (.int .i64 0) ∧ w = w' := by
  have M := Lib.hid (made_not p w h)
  clear h
  go_enter Tryd.func24, Tryd.ntmps24
  go_wp2_with (go_at_call 54; refine M.out.mono ?_; rintro e w1 ⟨rfl, rfl⟩)
  go_ret
  exact ⟨rfl, rfl⟩
end Go.Proofs.YtehmbcpgendkjaaDoor
