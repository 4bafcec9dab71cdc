import Derived.Test.YtfapaehjmbekpaaDoorWReads
import Derived.Test.YtfapaehjmbekpaaDoorWOpen
namespace Go.Proofs.YtfapaehjmbekpaaDoor
open Go.RowKit
set_option linter.unusedSimpArgs false
set_option linter.unusedVariables false
theorem reads_law (file base : Int) (v : Value) (a : Int) (turn : Bool) (w : World) (h0 : (Lit.int .u64 file).wf = true) (h1 : (Lit.int .i64 base).wf = true) (h2 : (Sh.slice (.slice (.int .u8))).Holds w [v]) (hR : ∀ q n c, v = .slice q n c → c * 24 ≤ reachBytes) (h3 : (Lit.int .i64 a).wf = true) (hT : Nib w) :
    Calls Tryd.prog 4 #[.int .u64 file, .int .i64 base, v, .int .i64 a, .bool turn] w fun e w' => e = .returned (.bool true) ∧ Below w.heap.size w w' := by
  have f0 := wf_u64 h0
  have f1 := wf_i64 h1
  have f3 := wf_i64 h3
  by_cases h : file = 0 ∨ 4611686018427387904 < file ∨ base < 0 ∨ 64 < base
  · exact reads_out file base a turn v w f0.1 f0.2 h
  · obtain ⟨f, rfl⟩ : ∃ f : Nat, file = f := ⟨file.toNat, by omega⟩
    obtain ⟨b, rfl⟩ : ∃ b : Nat, base = b := ⟨base.toNat, by omega⟩
    obtain ⟨p, ls, c, rfl, hc, hr, hY⟩ := rows_open h2
    have := hR p ls.length c rfl
    unfold reachBytes at this
    exact reads_in f b a turn p ls.length c ls w (by omega) (by omega) (by omega) f3.1 f3.2 rfl (by omega) hc hY hr hT
end Go.Proofs.YtfapaehjmbekpaaDoor
