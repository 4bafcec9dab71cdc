import Derived.Test.YtehmbcpgendkjaaDoorRTal
import Derived.Maps.AppendAt
import Derived.Deep.AppendLies
import Derived.Deep.RegionLaw
namespace Go.Proofs.YtehmbcpgendkjaaDoor
open Go.RowKit Go.Maps
set_option linter.unusedSimpArgs false
set_option linter.unusedVariables false
set_option maxRecDepth 100000 in
theorem rtreached_at (rb hb B cap : Nat) (c : Cfg) (A : Option Addr) (ks : List RK) (n bn bd : Int) (w : World) (h : RTal w rb hb B A cap ks) (hg : RefAt w hb c) (h1 : 1 ≤ c.f) (h2 : c.f ≤ 3) (hlen : ks.length ≤ 64) (hn : NodK ks) (hv : (lookK ks (n, bn, bd)).getD 0 < 4294967296) :
    Calls Tryd.prog 58 #[.pointer (some ⟨rb, 0, none⟩), .int .u64 n, .agg #[.int .u64 bn, .int .i64 bd]] w fun e w' => e = .returned (.bool (majB c ((lookK ks (n, bn, bd)).getD 0))) ∧ Below w.heap.size w w' := by
  have F : ∀ w1, Below w.heap.size w w1 → Calls Tryd.prog 40 #[.pointer (some ⟨rb, 0, none⟩), .int .u64 n, .agg #[.int .u64 bn, .int .i64 bd]] w1 fun e w' => e = .returned (.int .u32 ((lookK ks (n, bn, bd)).getD 0 : Nat)) ∧ Below w1.heap.size w1 w' := fun w1 hb1 => rtnodes_at rb hb B cap A ks n bn bd w1 (h.below hb1) hlen hn
  have J : ∀ w1, Below w.heap.size w w1 → Calls Tryd.prog 20 #[.pointer (some ⟨hb, 0, none⟩), .int .u32 ((lookK ks (n, bn, bd)).getD 0 : Nat)] w1 fun e w' => e = .returned (.bool (majB c ((lookK ks (n, bn, bd)).getD 0))) ∧ Below w1.heap.size w1 w' := fun w1 hb1 => sameB (rmajority_at hb c _ w1 (hg.below hg.lt hb1).f h1 h2 hv)
  have c0 := h.g
  have lt := h.lt
  generalize (lookK ks (n, bn, bd)).getD 0 = v at F J ⊢
  replace F := Lib.hid F
  replace J := Lib.hid J
  clear h hg hn
  go_enter Tryd.func58, Tryd.ntmps58
  go_wp2_with fail
  refine wp_region_below (by kernel_rfl) (by kernel_rfl) ?_
  repeat first | go_big_quiet_skip | (go_big_quiet_want; go_big_quiet_op; go_big_quiet_on) | (go_big_quiet_want; rename_i K hK; apply quiet_mk; (focus (intro w1 hw1; have hc1 := (bcell hw1).1; have hf1 := (bcell hw1).2; go_simp; first | done | rfl | (first | (go_at_call 40; (refine (F.out _ (below_alloc' hw1)).mono ?_); rintro e w2 ⟨rfl, hb2⟩; exact ⟨rfl, (hw1.trans (hb2.mono hw1.size)).mono (by simp)⟩) | (go_at_call 20; (refine (J.out _ (below_alloc' hw1)).mono ?_); rintro e w2 ⟨rfl, hb2⟩; exact ⟨rfl, (hw1.trans (hb2.mono hw1.size)).mono (by simp)⟩)))); refine hK _ ?_; clear hK K; try simp only [Act.put, List.setIfInBounds_toArray, List.set_cons_zero, List.set_cons_succ])
  refine wpQuiet_nil ?_
  intro wa hb_wa
  have hc_wa := (bcell hb_wa).1
  have hf_wa := (bcell hb_wa).2
  go_wp2
  go_ret
  exact ⟨rfl, (by repeat (first | exact Below.refl _ _ | exact hb_wa | refine Below.on ?_ hb_wa | refine Below.alloc_ ?_ _ | refine Below.drew ?_ | refine below_drewN ?_ | refine Below.setCell ?_ (by first | (simp; done) | (simp; omega)) _))⟩
set_option maxRecDepth 100000 in
theorem rtspeak_node (rb hb B cap : Nat) (c : Cfg) (A : Option Addr) (ks : List RK) (n bn bd x : Int) (w : World) (h : RTal w rb hb B A cap ks) (hg : RefAt w hb c) (h1 : 1 ≤ c.f) (h2 : c.f ≤ 3) (hx : ¬ (0 ≤ x ∧ x < 2 * c.f + 1)) :
    Calls Tryd.prog 56 #[.pointer (some ⟨rb, 0, none⟩), .int .u64 n, .agg #[.int .u64 bn, .int .i64 bd], .int .i64 x] w fun e w' => e = .returned (.tuple #[.int .i64 0, .int .i64 182]) ∧ Below w.heap.size w w' := by
  have N : ∀ w1, Below w.heap.size w w1 → Calls Tryd.prog 32 #[.pointer (some ⟨hb, 0, none⟩), .int .i64 x] w1 fun e w' => e = .returned (.bool false) ∧ w1 = w' := fun w1 hb1 => by
    have N := rnode_at hb c.f x w1 (hg.below hg.lt hb1).f (by omega) h2
    rw [decide_eq_false hx] at N
    exact N
  replace N := Lib.hid N
  have c0 := h.g
  have lt := h.lt
  clear h hg hx
  go_enter Tryd.func56, Tryd.ntmps56
  go_wp2_with fail
  refine (N.out _ (below_alloc _ _)).mono ?_
  rintro e w1 ⟨rfl, rfl⟩
  go_wp2
  go_ret2
  exact ⟨rfl, (by repeat (first | with_reducible refine Below.drew ?_ | with_reducible refine below_drewN ?_ | with_reducible refine Below.alloc_ ?_ _ | with_reducible refine Below.setCell ?_ (by first | (simp; done) | (simp; omega)) _ | with_reducible exact Below.refl _ _ ))⟩
set_option maxRecDepth 100000 in
theorem rtspeak_full (rb hb B cap : Nat) (c : Cfg) (A : Option Addr) (ks : List RK) (n bn bd x : Int) (w : World) (h : RTal w rb hb B A cap ks) (hg : RefAt w hb c) (h1 : 1 ≤ c.f) (h2 : c.f ≤ 3) (hx : 0 ≤ x ∧ x < 2 * c.f + 1)
    (hlen : ks.length ≤ 64) (hn : NodK ks) (hf : idxK ks (n, bn, bd) = none) (h64 : 64 ≤ ks.length) :
    Calls Tryd.prog 56 #[.pointer (some ⟨rb, 0, none⟩), .int .u64 n, .agg #[.int .u64 bn, .int .i64 bd], .int .i64 x] w fun e w' => e = .returned (.tuple #[.int .i64 0, .int .i64 185]) ∧ Below w.heap.size w w' := by
  have N : ∀ w1, Below w.heap.size w w1 → Calls Tryd.prog 32 #[.pointer (some ⟨hb, 0, none⟩), .int .i64 x] w1 fun e w' => e = .returned (.bool true) ∧ w1 = w' := fun w1 hb1 => by
    have N := rnode_at hb c.f x w1 (hg.below hg.lt hb1).f (by omega) h2
    rw [decide_eq_true hx] at N
    exact N
  have F : ∀ w1, Below w.heap.size w w1 → Calls Tryd.prog 63 #[.pointer (some ⟨rb, 0, none⟩), .int .u64 n, .agg #[.int .u64 bn, .int .i64 bd]] w1 fun e w' => e = .returned (.int .i64 (-1)) ∧ Below w1.heap.size w1 w' := fun w1 hb1 => by
    have := rfind_is rb hb B cap A ks n bn bd w1 (h.below hb1) hlen hn
    unfold idxI at this
    rw [hf] at this
    exact this
  replace N := Lib.hid N
  replace F := Lib.hid F
  have c0 := h.g
  have c1 := h.l
  have lt := h.lt
  have hn' : (64 : Int) ≤ (ks.length : Nat) := by omega
  clear h hg hx hf hn
  go_enter Tryd.func56, Tryd.ntmps56
  go_wp2_with fail
  refine (N.out _ (below_alloc _ _)).mono ?_
  rintro e w1 ⟨rfl, rfl⟩
  go_wp2_with fail
  refine (F.out _ (below_alloc _ _)).mono ?_
  rintro e wa ⟨rfl, hb_wa⟩
  have hc_wa := (bcell hb_wa).1
  have hf_wa := (bcell hb_wa).2
  go_wp2
  go_ret2
  exact ⟨rfl, (by repeat (first | exact Below.refl _ _ | exact hb_wa | refine Below.on ?_ hb_wa | refine Below.alloc_ ?_ _ | refine Below.drew ?_ | refine below_drewN ?_ | refine Below.setCell ?_ (by first | (simp; done) | (simp; omega)) _))⟩
theorem flatK_append (a b : List RK) : flatK (a ++ b) = flatK a ++ flatK b := List.flatMap_append
theorem flatK_set : ∀ (ks : List RK) (i : Nat) (h : i < ks.length) (u : Nat), flatK (ks.set i (ks[i].1, u)) = (flatK ks).set (i * 4 + 3) (.int .u32 (u : Nat))
  | [], _, h, _ => by simp at h
  | x :: r, 0, h, u => by simp [flatK, cellsK]
  | x :: r, i + 1, h, u => by
    have hi : i < r.length := by simpa using h
    have ih := flatK_set r i hi u
    have hx : (cellsK x).length = 4 := rfl
    simp only [List.set_cons_succ, flatK, List.flatMap_cons, List.getElem_cons_succ] at ih ⊢
    rw [ih, List.set_append_right _ _ (by omega), hx, show (i + 1) * 4 + 3 - 4 = i * 4 + 3 by omega]
theorem RTal.block {w : World} {rb hb B cap g : Nat} {ks : List RK} (h : RTal w rb hb B (some ⟨g, 0, none⟩) cap ks) : B ≤ g ∧ g < w.heap.size := h.row.lt g rfl
theorem RTal.stored {w : World} {rb hb B cap g : Nat} {ks : List RK} (h : RTal w rb hb B (some ⟨g, 0, none⟩) cap ks) (i : Nat) (hi : i < ks.length) (u : Nat) :
    RTal (w.setCell ⟨g, i * 4 + 3, none⟩ (.int .u32 (u : Nat))) rb hb B (some ⟨g, 0, none⟩) cap (ks.set i (ks[i].1, u)) := by
  have hb' := h.block
  have hlow := h.low
  have hr := (h.row.stored (i * 4 + 3) (.int .u32 (u : Nat)))
  refine ⟨by simpa using h.lt, h.low, ?_, ?_, ?_, ?_⟩
  · rw [World.cell?_setCell_other _ _ _ _ (by simp)]; exact h.g
  · rw [World.cell?_setCell_other _ _ _ _ (by simp), List.length_set]; exact h.l
  · rw [World.frozen?_setCell]; exact h.fr
  · rw [flatK_set ks i hi u, List.length_set]; exact hr.1
theorem RTal.put {w : World} {rb hb B cap cap' g : Nat} {A : Option Addr} {ks ks' : List RK} {w' : World} (h : RTal w rb hb B A cap ks) (hg : w.grownBy w' (Value.slice A ks.length cap).ownBlock) (hr : w'.ownsRow B 114 4 (.slice (some ⟨g, 0, none⟩) ks'.length cap') ks'.length (flatK ks')) :
    RTal (w'.setCell ⟨rb, 1, none⟩ (.slice (some ⟨g, 0, none⟩) ks'.length cap')) rb hb B (some ⟨g, 0, none⟩) cap' ks' := by
  have hlow := h.low
  have hne : some rb ≠ (Value.slice A ks.length cap).ownBlock := fun e => by
    have := (h.row.lt rb e.symm).1
    omega
  have hc : ∀ o, w'.cell? ⟨rb, o, none⟩ = w.cell? ⟨rb, o, none⟩ := fun o => World.cell?_of_block (hg.block rb h.lt hne)
  refine ⟨by simpa using Nat.lt_of_lt_of_le h.lt hg.size, h.low, ?_, ?_, ?_, ?_⟩
  · rw [World.cell?_setCell_other _ _ _ _ (by simp), hc]; exact h.g
  · exact World.cell?_setCell_same' _ _ _ (by rw [(hc 1).trans h.l]; rfl)
  · rw [World.frozen?_setCell]; exact (World.frozen?_of_block (hg.block rb h.lt hne)).trans h.fr
  · exact ownsRow_setCell_below hr hlow _
theorem RTal.carry {w : World} {rb hb B cap : Nat} {A : Option Addr} {ks : List RK} {w' : World} (h : RTal w rb hb B A cap ks) (hg : w.grownBy w' (Value.slice A ks.length cap).ownBlock) : w'.cell? ⟨rb, 1, none⟩ = some (.slice A ks.length cap) ∧ w'.frozen? ⟨rb, 1, none⟩ = false := by
  have hlow := h.low
  have hne : some rb ≠ (Value.slice A ks.length cap).ownBlock := fun e => by
    have := (h.row.lt rb e.symm).1
    omega
  exact ⟨(World.cell?_of_block (hg.block rb h.lt hne)).trans h.l, (World.frozen?_of_block (hg.block rb h.lt hne)).trans h.fr⟩
theorem keyInfo : (Tryd.prog.info? 114).map (fun i => (i.zero, i.size, i.bytes)) = some (some (.agg #[.int .u64 0, .int .u64 0, .int .i64 0, .int .u32 0]), 4, 32) := by kernel_rfl
theorem key_step {w : World} {ops : Array Oper} {o : Oper} {a : Act} {K : Act → World → Prop} {Q : Exit → Act → World → Prop} {E : Prop} (hgd : o.guard = none) (s x : Operand)
    (ho : o.op = .call { callee := .builtin .append, args := #[s, x], argTypes := #[64, 64] }) (B cap : Nat) (A : Option Addr) (ks : List RK) (y : RK) (hs : a.eval s = .slice A ks.length cap) (hown : w.ownsRow B 114 4 (.slice A ks.length cap) ks.length (flatK ks))
    (ad : Addr) (hx : a.eval x = .slice (some ad) 1 1) (hnews : ∀ j u, (cellsK y)[j]? = some u → w.cell? (ad.add j) = some u) (hlen : ks.length ≤ 64) (hB : B ≤ w.heap.size)
    (h : ∀ g cap' w', w'.ownsRow B 114 4 (.slice (some ⟨g, 0, none⟩) (ks.length + 1) cap') (ks.length + 1) (flatK (ks ++ [y])) → w.grownBy w' (Value.slice A ks.length cap).ownBlock → (A = some ⟨g, 0, none⟩ ∨ w.heap.size ≤ g) → K (a.put o.dst (.slice (some ⟨g, 0, none⟩) (ks.length + 1) cap')) w') :
    if Region.wanted o (yielded ops a.tmps) = true then Oper.wp Tryd.prog o a w K Q else E := by
  obtain ⟨i, hi, hz0, hz1, hz2⟩ := info_parts keyInfo
  have hf : flatK (ks ++ [y]) = flatK ks ++ cellsK y := by rw [flatK_append]; simp [flatK]
  refine step_append_lies w hgd s x 64 ho B 114 i _ 4 32 Tryd.underlying64 hi hz0 hz1 hz2 rfl (by omega) _ ks.length (flatK ks) hs hown ad 1 1 (cellsK y) hx rfl hnews (by intro u hu; simp [cellsK] at hu; rcases hu with rfl | rfl | rfl | rfl <;> rfl) (by omega) (by unfold maxLen; omega) (by omega) hB w.heap.size rfl ?_
  intro g cap' w' h1 h2 h3 h4
  refine h g cap' w' (by rw [hf]; exact h1) h2 ?_
  rcases h3 with h3 | h3
  · rcases A with _ | ⟨b, o, sp⟩
    · simp [Value.ownBlock] at h3
    · rcases hown.2 with ⟨hb, _⟩ | ⟨g', c', cur, hb, _⟩
      · simp at hb
      · simp at hb
        obtain ⟨⟨rfl, rfl, rfl⟩, rfl⟩ := hb
        simp [Value.ownBlock] at h3
        subst h3
        exact .inl rfl
  · exact .inr (by omega)
def rowB (rb : Nat) (A : Option Addr) : Nat := match A with
  | some a => a.block
  | none => rb
theorem But2.of_row {w w' : World} {rb n cap : Nat} {A : Option Addr} (h : w.grownBy w' (Value.slice A n cap).ownBlock) : But2 w w' rb (rowB rb A) := by
  refine ⟨h.os, h.tape, h.output, h.size, fun k hk h1 h2 => h.block k hk ?_⟩
  rcases A with _ | a
  · simp [Value.ownBlock]
  · simp [Value.ownBlock, rowB] at h2 ⊢
    exact h2
theorem But2.sym {w w' : World} {p q : Nat} (h : But2 w w' p q) : But2 w w' q p := ⟨h.os, h.tape, h.output, h.size, fun k hk h1 h2 => h.block k hk h2 h1⟩
theorem But2.put {w w' : World} {p q : Nat} (h : But2 w w' p q) (a : Addr) (v : Value) (ha : a.block = p ∨ a.block = q ∨ w.heap.size ≤ a.block) : But2 w (w'.setCell a v) p q := by
  rcases ha with ha | ha | ha
  · exact (h.sym.setCell a v (.inl ha)).sym
  · exact h.setCell a v (.inl ha)
  · exact h.setCell a v (.inr ha)
theorem own_or {w : World} {rb g o : Nat} {A : Option Addr} (h : A = some ⟨g, 0, none⟩ ∨ w.heap.size ≤ g) : (⟨g, o, none⟩ : Addr).block = rb ∨ (⟨g, o, none⟩ : Addr).block = rowB rb A ∨ w.heap.size ≤ (⟨g, o, none⟩ : Addr).block := h.elim (fun h => .inr (.inl (by rw [h]; rfl))) (fun h => .inr (.inr h))
/-- What Speak leaves. -/
def SpkPost (w : World) (rb hb B : Nat) (A : Option Addr) (ks' : List RK) (w' : World) : Prop :=
  ∃ g cap', RTal w' rb hb B (some ⟨g, 0, none⟩) cap' ks' ∧ (A = some ⟨g, 0, none⟩ ∨ w.heap.size ≤ g) ∧ But2 w w' rb (rowB rb A)
set_option maxRecDepth 100000 in
set_option maxHeartbeats 1600000 in
theorem rtspeak_in (rb hb B cap : Nat) (c : Cfg) (A : Option Addr) (ks : List RK) (n bn bd x : Int) (w : World) (h : RTal w rb hb B A cap ks) (hg : RefAt w hb c) (h1 : 1 ≤ c.f) (h2 : c.f ≤ 3) (hx : 0 ≤ x ∧ x < 2 * c.f + 1)
    (hlen : ks.length ≤ 64) (hn : NodK ks) (i : Nat) (hf : idxK ks (n, bn, bd) = some i) (v : Nat) (hv : v < 4294967296) (hlv : lookK ks (n, bn, bd) = some v) :
    Calls Tryd.prog 56 #[.pointer (some ⟨rb, 0, none⟩), .int .u64 n, .agg #[.int .u64 bn, .int .i64 bd], .int .i64 x] w fun e w' => e = .returned (.tuple #[.int .i64 (cardB (withB v x) : Nat), .int .i64 0]) ∧ SpkPost w rb hb B A (spkK ks (n, bn, bd) x) w' := by
  have N : ∀ w1, Below w.heap.size w w1 → Calls Tryd.prog 32 #[.pointer (some ⟨hb, 0, none⟩), .int .i64 x] w1 fun e w' => e = .returned (.bool true) ∧ w1 = w' := fun w1 hb1 => by
    have N := rnode_at hb c.f x w1 (hg.below hg.lt hb1).f (by omega) h2
    rw [decide_eq_true hx] at N
    exact N
  have F : ∀ w1, Below w.heap.size w w1 → Calls Tryd.prog 63 #[.pointer (some ⟨rb, 0, none⟩), .int .u64 n, .agg #[.int .u64 bn, .int .i64 bd]] w1 fun e w' => e = .returned (.int .i64 i) ∧ Below w1.heap.size w1 w' := fun w1 hb1 => by
    have := rfind_is rb hb B cap A ks n bn bd w1 (h.below hb1) hlen hn
    unfold idxI at this
    rw [hf] at this
    exact this
  obtain ⟨hi, hk1, hk2⟩ := idx_some hf
  obtain ⟨_, hspk⟩ := spk_some (x := x) hf
  obtain ⟨g, rfl, hgl, hBg, _, _, _, e4⟩ := h.keys i hi
  obtain rfl : ks[i].2 = v := by rw [hk2] at hlv; injection hlv
  obtain ⟨v, hve⟩ : ∃ v, v = ks[i].2 := ⟨_, rfl⟩
  rw [← hve] at e4 hv ⊢
  rw [hspk, ← hve]
  have hw := withB_lt x hv
  have H := Lib.hid h
  replace N := Lib.hid N
  replace F := Lib.hid F
  have c0 := h.g
  have c1 := h.l
  have lt := h.lt
  have low := h.low
  have r0 : ((i : Nat) : Int) < (ks.length : Nat) := by omega
  clear h hg hx hf hn hk1 hk2 hspk hlv hve
  go_enter Tryd.func56, Tryd.ntmps56
  go_wp2_with fail
  refine (N.out _ (below_alloc _ _)).mono ?_
  rintro e w1 ⟨rfl, rfl⟩
  go_wp2_with fail
  refine (F.out _ (below_alloc _ _)).mono ?_
  rintro e wa ⟨rfl, hb_wa⟩
  have hc_wa := (bcell hb_wa).1
  have hf_wa := (bcell hb_wa).2
  have hba := below_alloc' hb_wa
  have RT := Lib.hid (H.out.below hba)
  have BT : Hid (But2 w wa rb (rowB rb (some ⟨g, 0, none⟩))) := Lib.hid (But2.of_below hba)
  replace c1 := RT.out.l
  replace e4 := (hba.cell (p := ⟨g, i * 4 + 3, none⟩) hgl).trans e4
  clear hc_wa hf_wa hb_wa c0 H hba F N
  go_wp2_with fail
  refine wp_tail 15 (by kernel_rfl) (by kernel_rfl) (fun w2 hw2 => ?_)
  have hb2 : Below wa.heap.size wa w2 := by rw [hw2]; exact (Below.refl _ _).drew
  have RT2 := Lib.hid (RT.out.below hb2)
  have d1 : w2.cell? ⟨rb, 1, none⟩ = some (.slice (some ⟨g, 0, none⟩) (ks.length) cap) := by first | exact RT2.out.l | (rw [← hl1]; exact RT2.out.l)
  have d4 := (hb2.cell (p := ⟨g, i * 4 + 3, none⟩) RT.out.block.2).trans e4
  have fz := RT2.out.row.frozenAt (i * 4 + 3)
  have BT2 := Lib.hid (BT.out.trans (But2.of_below hb2))
  clear hw2 hb2 c1 e4
  simp only [List.take_succ_cons, List.take_zero, List.drop_succ_cons, List.drop_zero]
  repeat still_step
  refine wpStill_step (fun K hK => ?_)
  go_simp
  refine ⟨_, (rwith_any v x w2 hv).mono (fun e w1 h => ⟨h.1, h.2.symm⟩), hK _ ?_⟩
  clear hK K
  refine wpStill_nil ?_
  go_wp2_with fail
  refine (rcount_any (withB v x) _ hw).mono ?_
  rintro e w3 ⟨rfl, rfl⟩
  go_wp2
  go_ret2
  exact ⟨rfl, _, _, (RT2.out.stored _ hi _), (Or.inl rfl), BT2.out.put _ _ (own_or (Or.inl rfl))⟩
set_option maxRecDepth 100000 in
set_option maxHeartbeats 1600000 in
theorem rtspeak_new (rb hb B cap : Nat) (c : Cfg) (A : Option Addr) (ks : List RK) (n bn bd x : Int) (w : World) (h : RTal w rb hb B A cap ks) (hg : RefAt w hb c) (h1 : 1 ≤ c.f) (h2 : c.f ≤ 3) (hx : 0 ≤ x ∧ x < 2 * c.f + 1)
    (hlen : ks.length < 64) (hn : NodK ks) (hf : idxK ks (n, bn, bd) = none) (hB : B ≤ w.heap.size) :
    Calls Tryd.prog 56 #[.pointer (some ⟨rb, 0, none⟩), .int .u64 n, .agg #[.int .u64 bn, .int .i64 bd], .int .i64 x] w fun e w' => e = .returned (.tuple #[.int .i64 (cardB (withB 0 x) : Nat), .int .i64 0]) ∧ SpkPost w rb hb B A (spkK ks (n, bn, bd) x) w' := by
  have N : ∀ w1, Below w.heap.size w w1 → Calls Tryd.prog 32 #[.pointer (some ⟨hb, 0, none⟩), .int .i64 x] w1 fun e w' => e = .returned (.bool true) ∧ w1 = w' := fun w1 hb1 => by
    have N := rnode_at hb c.f x w1 (hg.below hg.lt hb1).f (by omega) h2
    rw [decide_eq_true hx] at N
    exact N
  have F : ∀ w1, Below w.heap.size w w1 → Calls Tryd.prog 63 #[.pointer (some ⟨rb, 0, none⟩), .int .u64 n, .agg #[.int .u64 bn, .int .i64 bd]] w1 fun e w' => e = .returned (.int .i64 (-1)) ∧ Below w1.heap.size w1 w' := fun w1 hb1 => by
    have := rfind_is rb hb B cap A ks n bn bd w1 (h.below hb1) (by omega) hn
    unfold idxI at this
    rw [hf] at this
    exact this
  have hspk := spk_none (x := x) hf
  obtain ⟨v, hve⟩ : ∃ v : Nat, v = 0 := ⟨0, rfl⟩
  obtain ⟨ks1, hks1⟩ : ∃ ks1, ks1 = ks ++ [((n, bn, bd), v)] := ⟨_, rfl⟩
  have hset : spkK ks (n, bn, bd) x = ks1.set ks.length ((n, bn, bd), withB v x) := by subst hks1; subst hve; rw [hspk]; simp
  have hcd : cardB (withB 0 x) = cardB (withB v x) := by rw [hve]
  rw [hset, hcd]
  clear hcd
  have hl1 : ks1.length = ks.length + 1 := by rw [hks1]; simp
  have hi1 : ks.length < ks1.length := by omega
  have hv1 : ks1[ks.length].2 = v := by subst hks1; simp
  have hkk : ks1[ks.length].1 = (n, bn, bd) := by subst hks1; simp
  have hv : v < 4294967296 := by omega
  have hw := withB_lt x hv
  replace hks1 := Lib.hid hks1
  replace hve := Lib.hid hve
  replace hv1 := Lib.hid hv1
  replace hkk := Lib.hid hkk
  have H := Lib.hid h
  replace N := Lib.hid N
  replace F := Lib.hid F
  have c0 := h.g
  have c1 := h.l
  have lt := h.lt
  have low := h.low
  have r1 : ((ks.length : Nat) : Int) < 64 := by omega
  clear h hg hx hf hn hspk hset
  go_enter Tryd.func56, Tryd.ntmps56
  go_wp2_with fail
  refine (N.out _ (below_alloc _ _)).mono ?_
  rintro e w1 ⟨rfl, rfl⟩
  go_wp2_with fail
  refine (F.out _ (below_alloc _ _)).mono ?_
  rintro e wa ⟨rfl, hb_wa⟩
  have hc_wa := (bcell hb_wa).1
  have hf_wa := (bcell hb_wa).2
  have hba := below_alloc' hb_wa
  have hbs : w.heap.size < wa.heap.size := Nat.lt_of_lt_of_le (by simp) hb_wa.size
  have RT := Lib.hid (H.out.below hba)
  have BT : Hid (But2 w wa rb (rowB rb A)) := Lib.hid (But2.of_below hba)
  replace c1 := RT.out.l
  have b0 : wa.cell? ⟨w.heap.size, 0, none⟩ = some (.int .u64 bn) := (hb_wa.cell (p := ⟨w.heap.size, 0, none⟩) (by simp)).trans (by simp)
  have b1 : wa.cell? ⟨w.heap.size, 1, none⟩ = some (.int .i64 bd) := (hb_wa.cell (p := ⟨w.heap.size, 1, none⟩) (by simp)).trans (by simp)
  clear hc_wa hf_wa hb_wa c0 H hba F N
  have hsz2 : w.heap.size ≤ wa.heap.size := BT.out.size
  have lt2 : rb < wa.heap.size := by omega
  go_wp2_with fail
  go_region_law (refine key_step rfl _ _ rfl B cap A ks ((n, bn, bd), 0) rfl (by first | exact RT.out.row.alloc _ | exact (RT.out.row.alloc _).drew | exact RT.out.row.drew.alloc _) _ rfl (World.news_of_block (cs := #[.int .u64 n, .int .u64 bn, .int .i64 bd, .int .u32 0]) (t := 114) (fr := (0, 0)) (heap_alloc_new wa _)) (by omega) (by simp; omega) ?_; intro g cap' w3 ho3 hg3 hA3; have hgA := World.grownBy.trans (grown_of_below (show Below wa.heap.size wa _ from (by repeat (first | with_reducible refine Below.drew ?_ | with_reducible refine below_drewN ?_ | with_reducible refine Below.alloc_ ?_ _ | with_reducible refine Below.setCell ?_ (by first | (simp; done) | (simp; omega)) _ | with_reducible exact Below.refl _ _ ))) _) hg3; have z1 := (RT.out.carry hgA).1; have z2 := (RT.out.carry hgA).2)
  all_goals (
    have HGA : A = some ⟨g, 0, none⟩ ∨ w.heap.size ≤ g := hA3.imp id (fun h => Nat.le_trans hsz2 (Nat.le_trans (by simp) h))
    obtain ⟨W, hW⟩ : ∃ W, W = w3.setCell ⟨rb, 1, none⟩ (.slice (some ⟨g, 0, none⟩) (ks.length + 1) cap') := ⟨_, rfl⟩
    rw [← hW]
    have RT' : Hid (RTal W rb hb B (some ⟨g, 0, none⟩) cap' ks1) := Lib.hid (by
      have h_ := RT.out.put (ks' := ks1) (g := g) (cap' := cap') hgA (by rw [hl1, hks1.out, hve.out]; exact ho3)
      rw [hl1] at h_
      rw [hW]
      exact h_)
    have BT' : Hid (But2 w W rb (rowB rb A)) := Lib.hid (by rw [hW]; exact (BT.out.trans (But2.of_row hgA)).put _ _ (.inl rfl))
    have c1' : W.cell? ⟨rb, 1, none⟩ = some (.slice (some ⟨g, 0, none⟩) (ks.length + 1) cap') := by rw [← hl1]; exact RT'.out.l
    have e4 : W.cell? ⟨g, ks.length * 4 + 3, none⟩ = some (.int .u32 (v : Nat)) := by
      obtain ⟨g', hg', _, _, _, _, _, e4⟩ := RT'.out.keys ks.length hi1
      obtain rfl : g = g' := by injection hg' with h_; injection h_
      rw [hv1.out] at e4
      exact e4
    replace HGA := Lib.hid (Lib.hid HGA)
    clear hW RT BT c1 b0 b1 hg3 hgA hA3 ho3 z1 z2 hbs hsz2 lt2
    have c1 := c1'
    clear c1'
    have r3 : ((ks.length : Nat) : Int) < ((ks.length : Nat) : Int) + 1 := by omega
    have RT := RT'
    have BT := BT'
    go_wp2_with fail
    refine wp_tail 15 (by kernel_rfl) (by kernel_rfl) (fun w2 hw2 => ?_)
    have hb2 : Below W.heap.size W w2 := by rw [hw2]; exact (Below.refl _ _).drew
    have RT2 := Lib.hid (RT.out.below hb2)
    have d1 : w2.cell? ⟨rb, 1, none⟩ = some (.slice (some ⟨g, 0, none⟩) (ks.length + 1) cap') := by first | exact RT2.out.l | (rw [← hl1]; exact RT2.out.l)
    have d4 := (hb2.cell (p := ⟨g, ks.length * 4 + 3, none⟩) RT.out.block.2).trans e4
    have fz := RT2.out.row.frozenAt (ks.length * 4 + 3)
    have BT2 := Lib.hid (BT.out.trans (But2.of_below hb2))
    clear hw2 hb2 c1 e4
    simp only [List.take_succ_cons, List.take_zero, List.drop_succ_cons, List.drop_zero]
    repeat still_step
    refine wpStill_step (fun K hK => ?_)
    go_simp
    refine ⟨_, (rwith_any v x w2 hv).mono (fun e w1 h => ⟨h.1, h.2.symm⟩), hK _ ?_⟩
    clear hK K
    refine wpStill_nil ?_
    go_wp2_with fail
    refine (rcount_any (withB v x) _ hw).mono ?_
    rintro e w3 ⟨rfl, rfl⟩
    go_wp2
    go_ret2
    exact ⟨rfl, _, _, (by have h_ := RT2.out.stored _ hi1 (withB v x); rw [hkk.out] at h_; exact h_), HGA.out.out, BT2.out.put _ _ (own_or HGA.out.out)⟩
    )
end Go.Proofs.YtehmbcpgendkjaaDoor
