import Derived.Test.YtehmbcpgendkjaaDoorTalSec
namespace Go.Proofs.YtehmbcpgendkjaaDoor
open Go.RowKit Go.Maps
set_option linter.unusedSimpArgs false
set_option linter.unusedVariables false
def StE (w : World) (c : Cfg) (B gb hb tb mb ub nb rb sb : Nat) : Prop := ∃ A1 p1 k1 A2 p2 k2, St w c B gb hb tb mb ub nb rb sb A1 p1 k1 A2 p2 k2
variable {w w' : World} {c : Cfg} {B0 B gb hb tb mb ub nb rb sb : Nat}
theorem StE.below (h : StE w c B gb hb tb mb ub nb rb sb) (hb' : Below w.heap.size w w') : StE w' c B gb hb tb mb ub nb rb sb := by
  obtain ⟨A1, p1, k1, A2, p2, k2, h⟩ := h
  exact ⟨A1, p1, k1, A2, p2, k2, h.below hb'⟩
theorem first_any (h : StE w c B gb hb tb mb ub nb rb sb) (I : Ids B0 B gb hb tb mb ub nb rb sb) (hB0 : B0 ≤ B) (h1 : 1 ≤ c.f) (h2 : c.f ≤ 3) (kd n bn bd x : Int) (hk : (Lit.int .u64 n).wf = true) :
    Calls Tryd.prog 37 #[.pointer (some ⟨tb, 0, none⟩), .pointer (some ⟨rb, 0, none⟩), .agg #[.int .i64 kd, .int .u64 n, .int .u64 bn, .int .i64 bd, .int .i64 x]] w fun e w' => e = .returned (.bool true) ∧ StE w' c B gb hb tb mb ub nb rb sb ∧ Below B0 w w' := by
  obtain ⟨A1, p1, k1, A2, p2, k2, h⟩ := h
  have fin : ∀ (e : Ending) (w' : World), (e = .returned (.bool true) ∧ (∃ A' p' k', St w' c B gb hb tb mb ub nb rb sb A' p' k' A2 p2 k2) ∧ Below B0 w w') → (e = .returned (.bool true) ∧ StE w' c B gb hb tb mb ub nb rb sb ∧ Below B0 w w') := fun e w' ⟨a, ⟨A', p', k', b⟩, d⟩ => ⟨a, ⟨A', p', k', A2, p2, k2, b⟩, d⟩
  by_cases e0 : kd = 0
  · subst e0; exact (first_speak h I hB0 h1 h2 n bn bd x hk).mono fin
  by_cases e2 : kd = 2
  · subst e2; exact (first_drop h I hB0 h1 h2 n bn bd x hk).mono fin
  by_cases e4 : kd = 4
  · subst e4; exact (first_nodes h I hB0 h1 h2 n bn bd x hk).mono fin
  by_cases e6 : kd = 6
  · subst e6; exact (first_reached h I hB0 h1 h2 n bn bd x hk).mono fin
  by_cases e8 : kd = 8
  · subst e8; exact (first_len h I hB0 h1 h2 n bn bd x hk).mono fin
  exact (first_other h I hB0 h1 h2 n bn bd x hk kd e0 e2 e4 e6 e8).mono fin
theorem second_any (h : StE w c B gb hb tb mb ub nb rb sb) (I : Ids B0 B gb hb tb mb ub nb rb sb) (hB0 : B0 ≤ B) (h1 : 1 ≤ c.f) (h2 : c.f ≤ 3) (kd n bn bd x : Int) (hkb : (Lit.int .u64 bn).wf = true) (hkd : (Lit.int .i64 bd).wf = true) :
    Calls Tryd.prog 38 #[.pointer (some ⟨ub, 0, none⟩), .pointer (some ⟨sb, 0, none⟩), .agg #[.int .i64 kd, .int .u64 n, .int .u64 bn, .int .i64 bd, .int .i64 x]] w fun e w' => e = .returned (.bool true) ∧ StE w' c B gb hb tb mb ub nb rb sb ∧ Below B0 w w' := by
  obtain ⟨A1, p1, k1, A2, p2, k2, h⟩ := h
  have fin : ∀ (e : Ending) (w' : World), (e = .returned (.bool true) ∧ (∃ A' p' k', St w' c B gb hb tb mb ub nb rb sb A1 p1 k1 A' p' k') ∧ Below B0 w w') → (e = .returned (.bool true) ∧ StE w' c B gb hb tb mb ub nb rb sb ∧ Below B0 w w') := fun e w' ⟨a, ⟨A', p', k', b⟩, d⟩ => ⟨a, ⟨A1, p1, k1, A', p', k', b⟩, d⟩
  by_cases e1 : kd = 1
  · subst e1; exact (second_speak h I hB0 h1 h2 n bn bd x hkb hkd).mono fin
  by_cases e3 : kd = 3
  · subst e3; exact (second_drop h I hB0 h1 h2 n bn bd x hkb hkd).mono fin
  by_cases e5 : kd = 5
  · subst e5; exact (second_nodes h I hB0 h1 h2 n bn bd x hkb hkd).mono fin
  by_cases e7 : kd = 7
  · subst e7; exact (second_reached h I hB0 h1 h2 n bn bd x hkb hkd).mono fin
  by_cases e9 : kd = 9
  · subst e9; exact (second_len h I hB0 h1 h2 n bn bd x hkb hkd).mono fin
  exact (second_other h I hB0 h1 h2 n bn bd x hkb hkd kd e1 e3 e5 e7 e9).mono fin
theorem NoTal.below {p : Option Addr} (h : NoTal w p) (hb : Below w.heap.size w w') : NoTal w' p := by
  rcases h with h | ⟨b, h1, h2⟩
  · exact .inl h
  · refine .inr ⟨b, h1, (hb.cell (p := ⟨b, 0, none⟩) ?_).trans h2⟩
    exact cell_lt h2
set_option maxRecDepth 100000 in
theorem notally_at (p : Option Addr) (w : World) (h : NoTal w p) : Calls Tryd.prog 36 #[.pointer p] w fun e w' => e = .returned (.bool true) ∧ Below w.heap.size w w' := by
  have S := Lib.hid (fun w1 (hb : Below w.heap.size w w1) => tspeak_not p 1 0 w1 (h.below hb))
  have D := Lib.hid (fun w1 (hb : Below w.heap.size w w1) => tdrop_not p 1 w1 (h.below hb))
  have L := Lib.hid (fun w1 (hb : Below w.heap.size w w1) => sameB (tlen_not p w1 (h.below hb)))
  have N := Lib.hid (fun w1 (hb : Below w.heap.size w w1) => sameB (tnodes_not p 1 w1 (h.below hb)))
  have R := Lib.hid (fun w1 (hb : Below w.heap.size w w1) => treached_not p 1 w1 (h.below hb))
  clear h
  go_enter Tryd.func36, Tryd.ntmps36
  go_wp2_with fail
  refine (S.out _ (Below.refl _ _)).mono ?_
  rintro e w1 ⟨rfl, rfl⟩
  go_wp2_with fail
  refine (D.out _ (Below.refl _ _)).mono ?_
  rintro e w1 ⟨⟨v, rfl⟩, rfl⟩
  go_wp2_with fail
  refine (L.out _ (Below.refl _ _)).mono ?_
  rintro e wa ⟨rfl, hb_wa⟩
  have hc_wa := (bcell hb_wa).1
  have hf_wa := (bcell hb_wa).2
  go_wp2_with fail
  refine (R.out _ hb_wa).mono ?_
  rintro e wb ⟨rfl, hb_wb⟩
  have hc_wb := (bcell hb_wb).1
  have hf_wb := (bcell hb_wb).2
  have hb2 := hb_wa.trans (hb_wb.mono hb_wa.size)
  go_wp2_with fail
  refine (N.out _ hb2).mono ?_
  rintro e wd ⟨rfl, hb_wd⟩
  have hc_wd := (bcell hb_wd).1
  have hf_wd := (bcell hb_wd).2
  go_wp2
  go_ret
  exact ⟨by simp, hb2.trans (hb_wd.mono hb2.size)⟩
end Go.Proofs.YtehmbcpgendkjaaDoor
