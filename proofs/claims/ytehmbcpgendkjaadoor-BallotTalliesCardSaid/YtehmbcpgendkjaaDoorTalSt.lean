import Derived.Test.YtehmbcpgendkjaaDoorTalU
namespace Go.Proofs.YtehmbcpgendkjaaDoor
open Go.RowKit Go.Maps
set_option linter.unusedSimpArgs false
set_option linter.unusedVariables false
/-- The blocks of the two tallies and their groups: all from B0 on, all below B, no two alike. -/
structure Ids (B0 B gb hb tb mb ub nb rb sb : Nat) : Prop where
  t0 : 0 < B0
  igb : B0 ≤ gb ∧ gb < B
  ihb : 0 ≤ hb ∧ hb < B
  itb : B0 ≤ tb ∧ tb < B
  imb : B0 ≤ mb ∧ mb < B
  iub : B0 ≤ ub ∧ ub < B
  inb : B0 ≤ nb ∧ nb < B
  irb : B0 ≤ rb ∧ rb < B
  isb : B0 ≤ sb ∧ sb < B
  dm : mb ≠ gb ∧ mb ≠ hb ∧ mb ≠ tb ∧ mb ≠ ub ∧ mb ≠ nb ∧ mb ≠ rb ∧ mb ≠ sb
  dn : nb ≠ gb ∧ nb ≠ hb ∧ nb ≠ tb ∧ nb ≠ ub ∧ nb ≠ rb ∧ nb ≠ sb
  dr : rb ≠ gb ∧ rb ≠ hb ∧ rb ≠ tb ∧ rb ≠ ub ∧ rb ≠ sb
  ds : sb ≠ gb ∧ sb ≠ hb ∧ sb ≠ tb ∧ sb ≠ ub
theorem RefAt.but {w w' : World} {b p q : Nat} {c : Cfg} (h : RefAt w b c) (hg : But2 w w' p q) (h1 : b ≠ p) (h2 : b ≠ q) : RefAt w' b c := by
  have hc : ∀ o, w'.cell? ⟨b, o, none⟩ = w.cell? ⟨b, o, none⟩ := fun o => hg.cell h.lt h1 h2
  exact ⟨Nat.lt_of_lt_of_le h.lt hg.size, (hc 0).trans h.f, (hc 1).trans h.mb, (hc 2).trans h.dl, (hc 3).trans h.wd, (hc 4).trans h.ev, (hc 5).trans h.bt, (hc 6).trans h.ep, (hc 7).trans h.em, (hc 8).trans h.mn, (hc 9).trans h.ms⟩
theorem MapIs.but {w w' : World} {mb p q n : Nat} {f : Int → Option Nat} (h : MapIs w mb f n) (hg : But2 w w' p q) (h1 : mb ≠ p) (h2 : mb ≠ q) : MapIs w' mb f n := by
  obtain ⟨D, ⟨es, clock, h3, F, hs, hD⟩, h4, h5⟩ := h
  refine ⟨D, ⟨es, clock, (hg.block mb ?_ h1 h2).trans h3, F, hs, hD⟩, h4, h5⟩
  by_cases hlt : mb < w.heap.size
  · exact hlt
  · rw [Array.getElem?_eq_none (by omega)] at h3; simp at h3
theorem MapB.but {w w' : World} {mb p q n : Nat} {f : Int × Int → Option Nat} (h : MapB w mb f n) (hg : But2 w w' p q) (h1 : mb ≠ p) (h2 : mb ≠ q) : MapB w' mb f n := by
  obtain ⟨D, ⟨es, clock, h3, F, hs, hD⟩, h4, h5⟩ := h
  refine ⟨D, ⟨es, clock, (hg.block mb ?_ h1 h2).trans h3, F, hs, hD⟩, h4, h5⟩
  by_cases hlt : mb < w.heap.size
  · exact hlt
  · rw [Array.getElem?_eq_none (by omega)] at h3; simp at h3
theorem RTal.but {w w' : World} {rb hb B cap p q : Nat} {A : Option Addr} {ks : List RK} (h : RTal w rb hb B A cap ks) (hg : But2 w w' p q) (h1 : rb ≠ p) (h2 : rb ≠ q) (h3 : ∀ g, A = some ⟨g, 0, none⟩ → g ≠ p ∧ g ≠ q) : RTal w' rb hb B A cap ks := by
  have hc : ∀ o, w'.cell? ⟨rb, o, none⟩ = w.cell? ⟨rb, o, none⟩ := fun o => hg.cell h.lt h1 h2
  refine ⟨Nat.lt_of_lt_of_le h.lt hg.size, h.low, (hc 0).trans h.g, (hc 1).trans h.l, (hg.frozen (a := ⟨rb, 1, none⟩) h.lt h1 h2).trans h.fr, ?_⟩
  obtain ⟨hl, h4 | ⟨g, c, cur, hv, hB, hh, hn, hm, hs, ht⟩⟩ := h.row
  · exact ⟨hl, .inl h4⟩
  · have hA := h3 g (by injection hv)
    refine ⟨hl, .inr ⟨g, c, cur, hv, hB, (hg.block g ?_ hA.1 hA.2).trans hh, hn, hm, hs, ht⟩⟩
    by_cases hlt : g < w.heap.size
    · exact hlt
    · rw [Array.getElem?_eq_none (by omega)] at hh; simp at hh
theorem RTal.low' {w : World} {rb hb B cap g : Nat} {A : Option Addr} {ks : List RK} (h : RTal w rb hb B A cap ks) (hA : A = some ⟨g, 0, none⟩) : B ≤ g ∧ g < w.heap.size := by
  subst hA
  exact h.block
theorem RTal.form {w : World} {rb hb B cap : Nat} {A : Option Addr} {ks : List RK} (h : RTal w rb hb B A cap ks) : A = none ∨ ∃ g, A = some ⟨g, 0, none⟩ := by
  rcases h.row.2 with ⟨h, _⟩ | ⟨g, c, cur, h, _⟩
  · exact .inl (by injection h)
  · exact .inr ⟨g, by injection h⟩
/-- The two tallies and the document's two. -/
structure St (w : World) (c : Cfg) (B gb hb tb mb ub nb rb sb : Nat) (A1 : Option Addr) (p1 : Nat) (k1 : List RK) (A2 : Option Addr) (p2 : Nat) (k2 : List RK) : Prop where
  gg : GrpAt w gb c (2 * c.f + 1)
  hh : RefAt w hb c
  tab : Tab w
  t : TalAt w tb gb mb
  m : MapIs w mb (f1K k1) k1.length
  u : TalAt w ub gb nb
  n : MapB w nb (f2K k2) k2.length
  r : RTal w rb hb B A1 p1 k1
  s : RTal w sb hb B A2 p2 k2
  n1 : NodK k1
  n2 : NodK k2
  l1 : k1.length ≤ 64
  l2 : k2.length ≤ 64
  f1 : FitK k1
  f2 : FitK k2
  ap : ∀ g, A1 = some ⟨g, 0, none⟩ → A2 ≠ some ⟨g, 0, none⟩
  bB : B ≤ w.heap.size
variable {w w' : World} {c : Cfg} {B0 B gb hb tb mb ub nb rb sb : Nat} {A1 : Option Addr} {p1 : Nat} {k1 : List RK} {A2 : Option Addr} {p2 : Nat} {k2 : List RK}
theorem St.below (h : St w c B gb hb tb mb ub nb rb sb A1 p1 k1 A2 p2 k2) (hb' : Below w.heap.size w w') : St w' c B gb hb tb mb ub nb rb sb A1 p1 k1 A2 p2 k2 :=
  ⟨h.gg.below h.gg.lt hb', h.hh.below h.hh.lt hb', h.tab.below (Nat.le_refl _) hb', h.t.below h.t.lt hb', h.m.below h.m.lt hb', h.u.below h.u.lt hb', h.n.below h.n.lt hb', h.r.below hb', h.s.below hb', h.n1, h.n2, h.l1, h.l2, h.f1, h.f2, h.ap, Nat.le_trans h.bB hb'.size⟩
theorem But2.grow {p : Nat} (h : w.grownBy w' (some p)) : But2 w w' p p := But2.of_grown h
theorem But2.belowS {p q : Nat} (h : But2 w w' p q) (hp : B0 ≤ p) (hq : B0 ≤ q) (hB : B0 ≤ w.heap.size) : Below B0 w w' := h.below hp hq hB
theorem rowB_ge (h : RTal w rb hb B A1 p1 k1) : rowB rb A1 = rb ∨ (B ≤ rowB rb A1 ∧ A1 = some ⟨rowB rb A1, 0, none⟩) := by
  rcases h.form with e | ⟨g, e⟩
  · subst e; exact .inl rfl
  · subst e; exact .inr ⟨h.block.1, rfl⟩
/-- A step of the first two. -/
theorem St.first (h : St w c B gb hb tb mb ub nb rb sb A1 p1 k1 A2 p2 k2) (I : Ids B0 B gb hb tb mb ub nb rb sb) (hB0 : B0 ≤ B) {w1 w2 w3 : World} {k1' : List RK} (hb1 : w.grownBy w1 (some mb)) (hm : MapIs w1 mb (f1K k1') k1'.length) (hb2 : Below w1.heap.size w1 w2) (hr : RPost w2 rb hb B A1 k1' w3)
    (hn : NodK k1') (hl : k1'.length ≤ 64) (hf : FitK k1') : (∃ A' p', St w3 c B gb hb tb mb ub nb rb sb A' p' k1' A2 p2 k2) ∧ Below B0 w w3 := by
  obtain ⟨A', cap', r1, r2, r3⟩ := hr
  have b12 : But2 w w2 mb mb := (But2.of_grown hb1).trans (But2.of_below hb2)
  obtain ⟨i0, i1, i2, i3, i4, i5, i6, i7, i8, im, iN, ir, is⟩ := I
  have hs2 := b12.size
  have hwB := h.bB
  have hq : rowB rb A1 = rb ∨ (B ≤ rowB rb A1 ∧ A1 = some ⟨rowB rb A1, 0, none⟩) := rowB_ge h.r
  have hrow : B0 ≤ rowB rb A1 := hq.elim (fun e => e.symm ▸ i7.1) (fun e => Nat.le_trans hB0 e.1)
  have hqm : ∀ y, y < B → y ≠ rb → y ≠ rowB rb A1 := fun y hy hne e => hq.elim (fun q => hne (e.trans q)) (fun q => Nat.lt_irrefl _ (Nat.lt_of_lt_of_le hy (e.symm ▸ q.1)))
  have hA : ∀ g, A2 = some ⟨g, 0, none⟩ → B ≤ g ∧ g < w.heap.size ∧ g ≠ rowB rb A1 := fun g hg => by
    have h1 := h.s.low' hg
    refine ⟨h1.1, h1.2, fun e => ?_⟩
    rcases hq with hq | hq
    · exact Nat.lt_irrefl _ (Nat.lt_of_lt_of_le i7.2 (hq ▸ e ▸ h1.1))
    · exact h.ap _ hq.2 (e ▸ hg)
  have hgm : ∀ g, A2 = some ⟨g, 0, none⟩ → g ≠ mb := fun g hg => Nat.ne_of_gt (Nat.lt_of_lt_of_le i4.2 (hA g hg).1)
  have hgr : ∀ g, A2 = some ⟨g, 0, none⟩ → g ≠ rb := fun g hg => Nat.ne_of_gt (Nat.lt_of_lt_of_le i7.2 (hA g hg).1)
  have ht1 : (0 : Nat) ≠ mb := Nat.ne_of_lt (Nat.lt_of_lt_of_le i0 i4.1)
  have ht2 : (0 : Nat) ≠ rb := Nat.ne_of_lt (Nat.lt_of_lt_of_le i0 i7.1)
  have hw2 : B0 ≤ w.heap.size := Nat.le_trans hB0 hwB
  refine ⟨⟨A', cap', ?_⟩, (b12.below i4.1 i4.1 hw2).trans (r3.below i7.1 hrow (Nat.le_trans hw2 hs2))⟩
  exact
    {
      gg := (h.gg.but b12 (im.1.symm) (im.1.symm)).but r3 (ir.1.symm) (hqm gb i1.2 (ir.1.symm))
      hh := (h.hh.but b12 (im.2.1.symm) (im.2.1.symm)).but r3 (ir.2.1.symm) (hqm hb i2.2 (ir.2.1.symm))
      tab := (h.tab.but b12 ht1 ht1).but r3 ht2 (hqm _ (Nat.lt_of_lt_of_le i0 hB0) ht2)
      t := (h.t.but b12 (im.2.2.1.symm) (im.2.2.1.symm)).but r3 (ir.2.2.1.symm) (hqm tb i3.2 (ir.2.2.1.symm))
      m := (hm.below hm.lt hb2).but r3 (im.2.2.2.2.2.1) (hqm mb i4.2 (im.2.2.2.2.2.1))
      u := (h.u.but b12 (im.2.2.2.1.symm) (im.2.2.2.1.symm)).but r3 (ir.2.2.2.1.symm) (hqm ub i5.2 (ir.2.2.2.1.symm))
      n := (h.n.but b12 (im.2.2.2.2.1.symm) (im.2.2.2.2.1.symm)).but r3 (iN.2.2.2.2.1) (hqm nb i6.2 (iN.2.2.2.2.1))
      r := r1
      s := (h.s.but b12 (im.2.2.2.2.2.2.symm) (im.2.2.2.2.2.2.symm) (fun g hg => ⟨hgm g hg, hgm g hg⟩)).but r3 (ir.2.2.2.2.symm) (hqm sb i8.2 (ir.2.2.2.2.symm)) (fun g hg => ⟨hgr g hg, (hA g hg).2.2⟩)
      n1 := hn
      n2 := h.n2
      l1 := hl
      l2 := h.l2
      f1 := hf
      f2 := h.f2
      ap := fun g hg e => (r2 g hg).elim (fun q => h.ap g q e) (fun q => Nat.lt_irrefl _ (Nat.lt_of_lt_of_le (Nat.lt_of_lt_of_le (hA g e).2.1 hs2) q))
      bB := Nat.le_trans hwB (Nat.le_trans hs2 r3.size) }
/-- A step of the second two. -/
theorem St.second (h : St w c B gb hb tb mb ub nb rb sb A1 p1 k1 A2 p2 k2) (I : Ids B0 B gb hb tb mb ub nb rb sb) (hB0 : B0 ≤ B) {w1 w2 w3 : World} {k2' : List RK} (hb1 : w.grownBy w1 (some nb)) (hm : MapB w1 nb (f2K k2') k2'.length) (hb2 : Below w1.heap.size w1 w2) (hr : RPost w2 sb hb B A2 k2' w3)
    (hn : NodK k2') (hl : k2'.length ≤ 64) (hf : FitK k2') : (∃ A' p', St w3 c B gb hb tb mb ub nb rb sb A1 p1 k1 A' p' k2') ∧ Below B0 w w3 := by
  obtain ⟨A', cap', r1, r2, r3⟩ := hr
  have b12 : But2 w w2 nb nb := (But2.of_grown hb1).trans (But2.of_below hb2)
  obtain ⟨i0, i1, i2, i3, i4, i5, i6, i7, i8, im, iN, ir, is⟩ := I
  have hs2 := b12.size
  have hwB := h.bB
  have hq : rowB sb A2 = sb ∨ (B ≤ rowB sb A2 ∧ A2 = some ⟨rowB sb A2, 0, none⟩) := rowB_ge h.s
  have hrow : B0 ≤ rowB sb A2 := hq.elim (fun e => e.symm ▸ i8.1) (fun e => Nat.le_trans hB0 e.1)
  have hqm : ∀ y, y < B → y ≠ sb → y ≠ rowB sb A2 := fun y hy hne e => hq.elim (fun q => hne (e.trans q)) (fun q => Nat.lt_irrefl _ (Nat.lt_of_lt_of_le hy (e.symm ▸ q.1)))
  have hA : ∀ g, A1 = some ⟨g, 0, none⟩ → B ≤ g ∧ g < w.heap.size ∧ g ≠ rowB sb A2 := fun g hg => by
    have h1 := h.r.low' hg
    refine ⟨h1.1, h1.2, fun e => ?_⟩
    rcases hq with hq | hq
    · exact Nat.lt_irrefl _ (Nat.lt_of_lt_of_le i8.2 (hq ▸ e ▸ h1.1))
    · exact h.ap g hg (e ▸ hq.2)
  have hgm : ∀ g, A1 = some ⟨g, 0, none⟩ → g ≠ nb := fun g hg => Nat.ne_of_gt (Nat.lt_of_lt_of_le i6.2 (hA g hg).1)
  have hgr : ∀ g, A1 = some ⟨g, 0, none⟩ → g ≠ sb := fun g hg => Nat.ne_of_gt (Nat.lt_of_lt_of_le i8.2 (hA g hg).1)
  have ht1 : (0 : Nat) ≠ nb := Nat.ne_of_lt (Nat.lt_of_lt_of_le i0 i6.1)
  have ht2 : (0 : Nat) ≠ sb := Nat.ne_of_lt (Nat.lt_of_lt_of_le i0 i8.1)
  have hw2 : B0 ≤ w.heap.size := Nat.le_trans hB0 hwB
  refine ⟨⟨A', cap', ?_⟩, (b12.below i6.1 i6.1 hw2).trans (r3.below i8.1 hrow (Nat.le_trans hw2 hs2))⟩
  exact
    {
      gg := (h.gg.but b12 (iN.1.symm) (iN.1.symm)).but r3 (is.1.symm) (hqm gb i1.2 (is.1.symm))
      hh := (h.hh.but b12 (iN.2.1.symm) (iN.2.1.symm)).but r3 (is.2.1.symm) (hqm hb i2.2 (is.2.1.symm))
      tab := (h.tab.but b12 ht1 ht1).but r3 ht2 (hqm _ (Nat.lt_of_lt_of_le i0 hB0) ht2)
      t := (h.t.but b12 (iN.2.2.1.symm) (iN.2.2.1.symm)).but r3 (is.2.2.1.symm) (hqm tb i3.2 (is.2.2.1.symm))
      m := (h.m.but b12 (im.2.2.2.2.1) (im.2.2.2.2.1)).but r3 (im.2.2.2.2.2.2) (hqm mb i4.2 (im.2.2.2.2.2.2))
      u := (h.u.but b12 (iN.2.2.2.1.symm) (iN.2.2.2.1.symm)).but r3 (is.2.2.2.symm) (hqm ub i5.2 (is.2.2.2.symm))
      n := (hm.below hm.lt hb2).but r3 (iN.2.2.2.2.2) (hqm nb i6.2 (iN.2.2.2.2.2))
      r := (h.r.but b12 (iN.2.2.2.2.1.symm) (iN.2.2.2.2.1.symm) (fun g hg => ⟨hgm g hg, hgm g hg⟩)).but r3 (ir.2.2.2.2) (hqm rb i7.2 (ir.2.2.2.2)) (fun g hg => ⟨hgr g hg, (hA g hg).2.2⟩)
      s := r1
      n1 := h.n1
      n2 := hn
      l1 := h.l1
      l2 := hl
      f1 := h.f1
      f2 := hf
      ap := fun g hg e => (r2 g e).elim (fun q => h.ap g hg q) (fun q => Nat.lt_irrefl _ (Nat.lt_of_lt_of_le (Nat.lt_of_lt_of_le (hA g hg).2.1 hs2) q))
      bB := Nat.le_trans hwB (Nat.le_trans hs2 r3.size) }
end Go.Proofs.YtehmbcpgendkjaaDoor
