import Derived.Test.YtfapaehjmbekpaaDoorWForm1
namespace Go.Proofs.YtfapaehjmbekpaaDoor
open Go.RowKit
set_option linter.unusedSimpArgs false
set_option linter.unusedVariables false
theorem owns_other {E sz n : Nat} {w w' : World} {B : Nat} {v : Value} {xs : List Value} {row : Option Nat} (h : w.ownsRow B E sz v n xs) (hg : w.grownBy w' row) (hne : ∀ g, v.ownBlock = some g → row ≠ some g) : w'.ownsRow B E sz v n xs := by
  obtain ⟨hl, h | ⟨g', c, cur, hv, hB, hh, hn, hm, hs, ht⟩⟩ := h
  · exact ⟨hl, .inl h⟩
  · refine ⟨hl, .inr ⟨g', c, cur, hv, hB, (hg.block g' ?_ ?_).trans hh, hn, hm, hs, ht⟩⟩
    · by_cases hlt : g' < w.heap.size
      · exact hlt
      · rw [Array.getElem?_eq_none (by omega)] at hh; simp at hh
    · subst hv
      exact fun e => hne g' rfl e.symm
/-- One list written in its own row. -/
theorem RowsX.turn {w w' : World} {B : Nat} {v : Value} {ls : List (List Int)} {xs : List Value} (h : RowsX w B v ls xs) (i : Nat) (hi : i < ls.length) (g : Nat) (hx : (xs[i]'(by rw [h.len]; exact hi)).ownBlock = some g) (hg : w.grownBy w' (some g)) (l' : List Int) (hn : OwnB w' B (xs[i]'(by rw [h.len]; exact hi)) l') : RowsX w' B v (ls.set i l') xs := by
  refine ⟨by simp [h.len], ?_, ?_, ?_, ?_⟩
  · rw [List.length_set]
    exact owns_other h.row hg fun g' hg' e => by
      injection e with e
      subst e
      exact h.out i hi g hx hg'
  · intro j hj
    rw [List.length_set] at hj
    rw [List.getElem_set]
    split
    · rename_i e; subst e; exact hn
    · rename_i e
      exact (h.own j hj).other hg fun g' hg' e2 => by
        injection e2 with e2
        subst e2
        exact h.sep i j hi hj e g hx hg'
  · intro j hj
    rw [List.length_set] at hj
    exact h.out j hj
  · intro j k hj hk
    rw [List.length_set] at hj hk
    exact h.sep j k hj hk
theorem RowsX.slot {w : World} {B : Nat} {v : Value} {ls : List (List Int)} {xs : List Value} (h : RowsX w B v ls xs) (i : Nat) (hi : i < ls.length) (h0 : 0 < (ls[i]).length) : ∃ g c, (xs[i]'(by rw [h.len]; exact hi)) = .slice (some ⟨g, 0, none⟩) (ls[i]).length c ∧ B ≤ g ∧ g < w.heap.size ∧ OwnB w B (.slice (some ⟨g, 0, none⟩) (ls[i]).length c) (ls[i]) := by
  have ho := h.own i hi
  rcases ho.2 with ⟨_, h1⟩ | ⟨g, cap, cur, hv, hb, hh, _⟩
  · omega
  · have hlt := ho.lt g (by rw [hv]; rfl)
    rw [hv] at ho
    exact ⟨g, cap, hv, hlt.1, hlt.2, ho⟩
theorem byte_grow {w : World} {ops : Array Oper} {rest : List Oper} {o : Oper} {a : Act} {Q : Exit → Act → World → Prop} (hgd : o.guard = none) (s x : Operand)
    (ho : o.op = .call { callee := .builtin .append, args := #[s, x], argTypes := #[23, 23] }) (g n cap : Nat) (l : List Int) (hl : l.length = n) (hs : a.eval s = .slice (some ⟨g, 0, none⟩) n cap) (hr : RdB w (some ⟨g, 0, none⟩) l) (hcap : n ≤ cap)
    (ad : Addr) (m c : Nat) (news : List Int) (hm : news.length = m) (hx : a.eval x = .slice (some ad) m c) (hnews : ∀ j u, (news.map (Value.int .u8))[j]? = some u → w.cell? (ad.add j) = some u) (hroom : cap < n + m) (hlen : n + m ≤ 140737488355328)
    (h : ∀ K w', OwnB w' w.heap.size (.slice (some ⟨w.heap.size, 0, none⟩) (n + m) K) (l ++ news) → Below w.heap.size w w' → wpList Tryd.prog ops Q rest (a.put o.dst (.slice (some ⟨w.heap.size, 0, none⟩) (n + m) K)) w') :
    wpList Tryd.prog ops Q (o :: rest) a w := by
  obtain ⟨i, hi, hz0, hz1, hz2⟩ := info_parts byteInfo
  subst hl
  have holds : ∀ j u, (l.map (Value.int .u8))[j]? = some u → w.cell? ((⟨g, 0, none⟩ : Addr).add j) = some u := fun j u hj => by
    have hj' : j < l.length := by simpa using (List.getElem?_eq_some_iff.1 hj).1
    obtain ⟨b', o', e1, e2, e3⟩ := hr j hj'
    injection e1 with e1
    injection e1 with e4 e5
    subst e4 e5
    rw [Addr.add_lit, e3]
    simp [List.getElem?_map, hj'] at hj
    rw [← hj]
  have hrun := run_append_grow (P := Tryd.prog) w 23 o.type 5 i _ Tryd.underlying23 hi hz0 ⟨g, 0, none⟩ l.length cap (l.map (Value.int .u8)) (by rw [hz1]; simp) holds ad m c (news.map (Value.int .u8)) (by rw [hz1]; simpa using hm) hnews hroom (by omega) (by rw [hz2]; exact growslice_fits (by omega) (by omega))
  refine wpList_plain hgd fun K hK => ?_
  unfold Oper.wp execOp
  simp only [ho, resolve, invoke, builtin, Sem.run_bind, Sem.run_pure, Result.andThen_ok, List.map_toArray, List.map_cons, List.map_nil, hs, hx, hrun]
  refine hK _ _ (h _ _ ?_ ?_)
  · have hge := grownCap_ge w (l.length + m) cap 5
    have hcm : grownCap w (l.length + m) cap 5 ≤ maxLen := grownCap_le_maxLen w (l.length + m) cap 5 (by unfold maxLen; omega)
    refine ⟨by simp, .inr ⟨w.heap.size, _, _, ?_, Nat.le_refl _, heap_alloc_new w.drew _, ?_, hcm, ?_, ?_⟩⟩
    · rw [List.length_append, hm]
    · rw [List.length_append, hm]; exact hge
    · simp only [Array.size_append, List.size_toArray, size_zeroCells, List.length_map, hm, Nat.mul_one]
      simp [Value.cells]
      omega
    · simp only [Array.toList_append, List.append_assoc, Nat.mul_one, List.map_append]
      rw [← List.append_assoc, ← List.map_append, show (l ++ news).length = ((l ++ news).map (Value.int .u8)).length by simp]
      exact List.take_left
  · exact ⟨rfl, rfl, rfl, by simp, fun k hk => heap_alloc_old w.drew _ hk⟩
theorem byte_fits2 {w : World} {ops : Array Oper} {rest : List Oper} {o : Oper} {a : Act} {Q : Exit → Act → World → Prop} (hgd : o.guard = none) (s x : Operand)
    (ho : o.op = .call { callee := .builtin .append, args := #[s, x], argTypes := #[23, 23] }) (B g n cap : Nat) (l : List Int) (hl : l.length = n) (hs : a.eval s = .slice (some ⟨g, 0, none⟩) n cap) (hown : OwnB w B (.slice (some ⟨g, 0, none⟩) n cap) l)
    (ad : Addr) (m c : Nat) (news : List Int) (hm : news.length = m) (hx : a.eval x = .slice (some ad) m c) (hnews : ∀ j u, (news.map (Value.int .u8))[j]? = some u → w.cell? (ad.add j) = some u) (hroom : n + m ≤ cap)
    (h : ∀ w', OwnB w' B (.slice (some ⟨g, 0, none⟩) (n + m) cap) (l ++ news) → w.grownBy w' (some g) → wpList Tryd.prog ops Q rest (a.put o.dst (.slice (some ⟨g, 0, none⟩) (n + m) cap)) w') :
    wpList Tryd.prog ops Q (o :: rest) a w := by
  obtain ⟨i, hi, hz0, hz1, hz2⟩ := info_parts byteInfo
  subst hl
  refine wpList_append_fits w hgd s x 23 ho B 5 i 1 Tryd.underlying23 hi hz1 g l.length cap (l.map (Value.int .u8)) hs hown ad m c (news.map (Value.int .u8)) hx (by simpa using hm) hnews (ints_oneCell _ _) hroom ?_
  intro w' h1 h2
  have hl : (l ++ news).length = l.length + m := by simp [hm]
  have hf : (l ++ news).map (Value.int .u8) = l.map (Value.int .u8) ++ news.map (Value.int .u8) := by simp
  exact h w' (by unfold OwnB; rw [hl, hf]; exact h1) h2
theorem RowsX.away {w w' : World} {B : Nat} {v : Value} {ls : List (List Int)} {xs : List Value} (h : RowsX w B v ls xs) (g : Nat) (hv : v.ownBlock ≠ some g) (hx : ∀ j (hj : j < xs.length), (xs[j]).ownBlock ≠ some g) (hg : w.grownBy w' (some g)) : RowsX w' B v ls xs :=
  ⟨h.len, owns_other h.row hg (fun g' h1 e => by injection e with e; subst e; exact hv h1), fun j hj => (h.own j hj).other hg (fun g' h1 e => by injection e with e; subst e; exact hx j _ h1), h.out, h.sep⟩
/-- Where the pushing stands: c holds the row i and k marks behind it, in the row's own place or apart from all. -/
structure PushSt (w : World) (B : Nat) (v : Value) (ls : List (List Int)) (xs : List Value) (i k : Nat) (x : Value) (l : List Int) (c : Value) : Prop where
  rows : RowsX w B v ls xs
  hi : i < ls.length
  hl : ls[i] = l
  hx : xs[i]? = some x
  own : OwnB w B c (l ++ List.replicate k 241)
  pl : (∃ g cap, x = .slice (some ⟨g, 0, none⟩) l.length cap ∧ c = .slice (some ⟨g, 0, none⟩) (l.length + k) cap) ∨ (∀ g, c.ownBlock = some g → v.ownBlock ≠ some g ∧ ∀ j (h : j < xs.length), (xs[j]).ownBlock ≠ some g)
theorem PushSt.below {w w' : World} {B : Nat} {v x c : Value} {ls : List (List Int)} {xs : List Value} {i k : Nat} {l : List Int} (h : PushSt w B v ls xs i k x l c) (hb : Below w.heap.size w w') : PushSt w' B v ls xs i k x l c :=
  ⟨h.rows.below hb, h.hi, h.hl, h.hx, h.own.below hb, h.pl⟩
theorem RowsX.low {w : World} {B : Nat} {v : Value} {ls : List (List Int)} {xs : List Value} (h : RowsX w B v ls xs) : (∀ g, v.ownBlock = some g → g < w.heap.size) ∧ ∀ j (hj : j < xs.length) g, (xs[j]).ownBlock = some g → B ≤ g ∧ g < w.heap.size :=
  ⟨fun g hg => (World.ownsRow.lt h.row g hg).2, fun j hj g hg => (h.own j (by rw [← h.len]; exact hj)).lt g hg⟩
theorem below_grown' {w w' : World} {B g : Nat} (h : w.grownBy w' (some g)) (hg : B ≤ g) (hB : B ≤ w.heap.size) : Below B w w' :=
  ⟨h.os, h.tape, h.output, h.size, fun k hk => h.block k (by omega) (fun e => by injection e with e; omega)⟩
theorem push_list {w : World} {ops : Array Oper} {rest : List Oper} {o : Oper} {a : Act} {Q : Exit → Act → World → Prop} (hgd : o.guard = none) (s y : Operand)
    (ho : o.op = .call { callee := .builtin .append, args := #[s, y], argTypes := #[23, 23] }) (B : Nat) (v x c : Value) (ls : List (List Int)) (xs : List Value) (i k : Nat) (l : List Int) (hs : a.eval s = c) (st : PushSt w B v ls xs i k x l c)
    (ad : Addr) (hy : a.eval y = .slice (some ad) 1 1) (hnews : ∀ j u, ([241].map (Value.int .u8))[j]? = some u → w.cell? (ad.add j) = some u) (hl : l.length ≤ 1000000000) (hk : k ≤ 64) (hB : B ≤ w.heap.size)
    (h : ∀ c' w', PushSt w' B v ls xs i (k + 1) x l c' → Below B w w' → wpList Tryd.prog ops Q rest (a.put o.dst c') w') : wpList Tryd.prog ops Q (o :: rest) a w := by
  have hrep : l ++ List.replicate k (241 : Int) ++ [241] = l ++ List.replicate (k + 1) 241 := by rw [List.append_assoc, List.replicate_succ']
  have hlen : (l ++ List.replicate k (241 : Int)).length = l.length + k := by simp
  have hlow := st.rows.low
  have fresh : ∀ K w', OwnB w' w.heap.size (.slice (some ⟨w.heap.size, 0, none⟩) (l.length + k + 1) K) (l ++ List.replicate k (241 : Int) ++ [241]) → Below w.heap.size w w' → PushSt w' B v ls xs i (k + 1) x l (.slice (some ⟨w.heap.size, 0, none⟩) (l.length + k + 1) K) := fun K w' h1 h2 =>
    ⟨st.rows.below h2, st.hi, st.hl, st.hx, by rw [← hrep]; exact h1.mono hB, .inr fun g hg => by
      have e : g = w.heap.size := by injection hg with hg; exact hg.symm
      subst e
      exact ⟨fun e => by have := hlow.1 _ e; omega, fun j hj e => by have := (hlow.2 j hj _ e).2; omega⟩⟩
  rcases st.own.2 with ⟨hc, h0⟩ | ⟨g, cap, cur, hc, hb, hh, hcap, _⟩
  · have e1 : l = [] := by
      have := congrArg id h0
      rw [hlen] at h0
      exact List.eq_nil_of_length_eq_zero (by omega)
    have e2 : k = 0 := by rw [hlen] at h0; omega
    subst e1 e2
    refine byte_list hgd s y ho w.heap.size c [] hs (by rw [hc]; exact ownB_nil _ _) ad 1 1 [241] rfl hy hnews (by simp) (Nat.le_refl _) ?_
    intro v' w' h1 h2
    obtain ⟨g, cap, hv, _, _⟩ := World.ownsRow.form h1 (by simp)
    subst hv
    have hg := h1.lt g rfl
    refine h _ w' ⟨st.rows.below h2, st.hi, st.hl, st.hx, by simpa using h1.mono hB, .inr fun g' hg' => ?_⟩ (h2.mono hB)
    have e : g' = g := by injection hg' with hg'; exact hg'.symm
    subst e
    exact ⟨fun e => by have := hlow.1 _ e; omega, fun j hj e => by have := (hlow.2 j hj _ e).2; omega⟩
  · rw [hlen] at hc hcap
    have hown : OwnB w B (.slice (some ⟨g, 0, none⟩) (l.length + k) cap) (l ++ List.replicate k 241) := hc ▸ st.own
    have hglt := hown.lt g rfl
    by_cases hroom : l.length + k + 1 ≤ cap
    · refine byte_fits2 hgd s y ho B g (l.length + k) cap _ hlen (by rw [hs, hc]) hown ad 1 1 [241] rfl hy hnews hroom ?_
      intro w' h1 h2
      refine h _ w' ?_ (below_grown' h2 hglt.1 hB)
      rcases st.pl with ⟨g2, cap2, hx2, hc2⟩ | hfr
      · rw [hc] at hc2
        injection hc2 with e1 e2 e3
        injection e1 with e1
        injection e1 with e1
        subst e1 e3
        have hi' : i < xs.length := by rw [st.rows.len]; exact st.hi
        have hxi : xs[i] = .slice (some ⟨g, 0, none⟩) l.length cap := by
          have := st.hx
          rw [List.getElem?_eq_getElem hi', hx2] at this
          injection this
        have hrow := st.rows.turn i st.hi g (by rw [hxi]; rfl) h2 l (by rw [hxi]; rw [hrep] at h1; exact OwnB.short h1)
        have hset : ls.set i l = ls := by rw [← st.hl]; exact List.set_getElem_self _
        rw [hset] at hrow
        exact ⟨hrow, st.hi, st.hl, st.hx, by rw [← hrep]; exact h1, .inl ⟨g, cap, hx2, rfl⟩⟩
      · obtain ⟨f1, f2⟩ := hfr g (by rw [hc]; rfl)
        exact ⟨st.rows.away g f1 f2 h2, st.hi, st.hl, st.hx, by rw [← hrep]; exact h1, .inr fun g' hg' => by
          have e : g' = g := by injection hg' with hg'; exact hg'.symm
          subst e
          exact ⟨f1, f2⟩⟩
    · refine byte_grow hgd s y ho g (l.length + k) cap _ hlen (by rw [hs, hc]) (OwnB.rd hown).2 hcap ad 1 1 [241] rfl hy hnews (by omega) (by omega) ?_
      intro K w' h1 h2
      exact h _ w' (fresh K w' h1 h2) (h2.mono hB)
/-- The marks of the rows ahead of i, and of the first k places of row i. -/
def Mrk (ls : List (List Int)) (i k : Nat) : Prop := ∀ j (h : j < ls.length), (j < i → ∀ q (h2 : q < (ls[j]).length), (ls[j])[q] = ((j % 200 : Nat) : Int)) ∧ (j = i → ∀ q (h2 : q < (ls[j]).length), q < k → (ls[j])[q] = ((j % 200 : Nat) : Int))
def Len (ls ls' : List (List Int)) : Prop := ls'.length = ls.length ∧ ∀ j (h : j < ls.length) (h' : j < ls'.length), (ls'[j]).length = (ls[j]).length
theorem Mrk.next {ls : List (List Int)} {i k : Nat} (h : Mrk ls i k) (hk : ∀ h : i < ls.length, (ls[i]).length ≤ k) : Mrk ls (i + 1) 0 := fun j hj => by
  refine ⟨fun hlt q hq => ?_, fun _ q hq h0 => by omega⟩
  by_cases e : j = i
  · subst e; exact (h j hj).2 rfl q hq (by have := hk hj; omega)
  · exact (h j hj).1 (by omega) q hq
theorem Mrk.put {ls : List (List Int)} {i k : Nat} (h : Mrk ls i k) (hi : i < ls.length) : Mrk (ls.set i ((ls[i]).set k ((i % 200 : Nat) : Int))) i (k + 1) := fun j hj0 => by
  have hj : j < ls.length := by simpa using hj0
  by_cases e : j = i
  · subst e
    refine ⟨fun hlt => by omega, fun _ q hq hqk => ?_⟩
    simp only [List.getElem_set_self] at hq ⊢
    rw [List.getElem_set]
    split
    · rfl
    · exact (h j hj).2 rfl q (by simpa using hq) (by omega)
  · have e2 : (ls.set i ((ls[i]).set k ((i % 200 : Nat) : Int)))[j]'(by simpa using hj) = ls[j] := by rw [List.getElem_set_ne (fun e2 => e e2.symm)]
    refine ⟨fun hlt q hq => ?_, fun e3 => absurd e3 e⟩
    simp only [e2] at hq ⊢
    exact (h j hj).1 hlt q hq
set_option maxRecDepth 100000 in
set_option maxHeartbeats 3200000 in
theorem apart_at (B : Nat) (v : Value) (ls : List (List Int)) (xs : List Value) (w : World) (n : Nat) (hn : ls.length = n) (hm : n ≤ 1000000000) (hs : ∀ i (h : i < ls.length), (ls[i]).length ≤ 1000000000) (hr : RowsX w B v ls xs) (hB : B ≤ w.heap.size) :
    Calls Tryd.prog 16 #[v] w fun e w' => e = .returned (.bool true) ∧ Below B w w' := by
  obtain ⟨pv, cv, rfl⟩ := hr.form
  rw [hn] at hr ⊢
  have HN := Lib.hid hn
  have HS := Lib.hid hs
  have hr0 := Lib.hid hr
  clear hn hs hr
  go_enter Tryd.func16, Tryd.ntmps16
  go_wp2
  go_loopw [3] (fun i wr => ∃ (k : Nat) (ls' : List (List Int)), k ≤ n ∧ i = .int .i64 k ∧ RowsX wr B (.slice pv n cv) ls' xs ∧ Len ls ls' ∧ Mrk ls' k 0 ∧ Below B w wr) (fun i _ => n - (intOf i).toNat)
  case atStart => exact ⟨0, ls, Nat.zero_le _, rfl, hr0.out, ⟨rfl, fun _ _ _ => rfl⟩, fun j hj => ⟨fun h => by omega, fun _ q _ h => by omega⟩, Below.refl _ _⟩
  case round =>
    obtain ⟨i, ls1, hi, rfl, hr1, hl1, hm1, hb1⟩ := hrel
    by_cases hlt : i < n
    · have hi1 : i < ls1.length := by rw [hl1.1, HN.out]; exact hlt
      have hlen := hl1.2 i (by rw [HN.out]; exact hlt) hi1
      have hsl := HS.out i (by rw [HN.out]; exact hlt)
      rw [← hlen] at hsl
      have hxi : i < xs.length := by rw [hr1.len]; exact hi1
      obtain ⟨gv, rfl, hgv, hcv⟩ := hr1.cell i hi1
      obtain ⟨q, c, hxf, _⟩ := (hr1.own i hi1).form2
      obtain ⟨len, hlen1⟩ : ∃ len, len = (ls1[i]).length := ⟨_, rfl⟩
      rw [hxf, ← hlen1] at hcv
      rw [← hlen1] at hsl hxf
      have hi0 : (0 : Int) ≤ (i : Int) := Int.natCast_nonneg _
      have hin : (i : Int) < (n : Int) := by omega
      have hxf := Lib.hid hxf
      have hlen2 := Lib.hid (hlen1.trans hlen)
      replace hr1 := Lib.hid hr1
      replace hm1 := Lib.hid hm1
      replace hl1 := Lib.hid hl1
      replace hb1 := Lib.hid hb1
      clear hlen hlen1 hcv
      go_wp2
      go_loopw [4] (fun t wr2 => ∃ (k : Nat) (ls2 : List (List Int)), k ≤ len ∧ t = .int .i64 k ∧ RowsX wr2 B (.slice (some ⟨gv, 0, none⟩) n cv) ls2 xs ∧ Len ls ls2 ∧ Mrk ls2 i k ∧ Below B w wr2) (fun t _ => len - (intOf t).toNat)
      case atStart => exact ⟨0, ls1, Nat.zero_le _, rfl, hr1.out, hl1.out, hm1.out, hb1.out⟩
      case round =>
        obtain ⟨k, ls2, hk, rfl, hr2, hl2, hm2, hb2⟩ := hrel
        have hi2 : i < ls2.length := by rw [hl2.1, HN.out]; exact hlt
        have hln2 := (hl2.2 i (by rw [HN.out]; exact hlt) hi2).trans hlen2.out.symm
        obtain ⟨gv', e, hgv2, hcv2⟩ := hr2.cell i hi2
        injection e with e
        injection e with e
        subst e
        rw [hxf.out] at hcv2
        by_cases hkl : k < len
        · obtain ⟨g, c', hx2, hg1, hg2, ho2⟩ := hr2.slot i hi2 (by omega)
          rw [hxf.out] at hx2
          injection hx2 with e1 e2 e3
          subst e1 e3
          have hst := World.ownsRow.stored ho2 k (.int .u8 ((i : Int) % 200))
          have hfr := World.ownsRow.frozenAt ho2 k
          have hck := World.ownsRow.cellAt ho2 k (by omega)
          obtain ⟨y, hy⟩ : ∃ y, wr.cell? ⟨g, k, none⟩ = some y := by
            rw [hck]; exact ⟨_, List.getElem?_eq_getElem (by simp; omega)⟩
          have hput := Lib.hid (hm2.put (k := k) hi2)
          have hturn := Lib.hid (hr2.turn i hi2 g (by rw [hxf.out]; rfl) hst.2 ((ls2[i]).set k ((i % 200 : Nat) : Int)) (by
            rw [hxf.out]
            unfold OwnB
            rw [List.length_set, List.map_set, hln2]
            have h_ := hst.1
            rw [hln2] at h_
            simpa using h_))
          have hlen3 : Hid (Len ls (ls2.set i ((ls2[i]).set k ((i % 200 : Nat) : Int)))) := Lib.hid ⟨by rw [List.length_set]; exact hl2.1, fun j h h' => by
            rw [List.getElem_set]
            split
            · rename_i e; subst e; rw [List.length_set]; exact hl2.2 _ h _
            · exact hl2.2 j h _⟩
          have hb3 := Lib.hid (show Below B w (wr.setCell ⟨g, k, none⟩ (.int .u8 ((i : Int) % 200))) from hb2.setCell (p := ⟨g, k, none⟩) hg1 _)
          have hk0 : (0 : Int) ≤ (k : Int) := Int.natCast_nonneg _
          have hkn : (k : Int) < (len : Int) := by omega
          replace hb2 := Lib.hid hb2
          replace hl2 := Lib.hid hl2
          replace hm2 := Lib.hid hm2
          replace hr2 := Lib.hid hr2
          clear hst hck ho2 hln2
          go_wp2
          go_roundw
          case rel => exact ⟨k + 1, _, by omega, by go_num, hturn.out, hlen3.out, hput.out, hb3.out⟩
          case measure => simp [intOf]; omega
        · obtain rfl : k = len := by omega
          have hnx := Lib.hid (hm2.next (fun h => by omega))
          replace hb2 := Lib.hid hb2
          replace hl2 := Lib.hid hl2
          replace hm2 := Lib.hid hm2
          replace hr2 := Lib.hid hr2
          clear hln2
          go_wp2
          go_roundw
          case rel => exact ⟨i + 1, ls2, by omega, by go_num, hr2.out, hl2.out, hnx.out, hb2.out⟩
          case measure => simp [intOf]; omega
    · obtain rfl : i = n := by omega
      have hMk : Hid (∀ j (h : j < ls1.length) q (h2 : q < (ls1[j]).length), (ls1[j])[q] = ((j % 200 : Nat) : Int)) := Lib.hid fun j h q h2 => (hm1 j h).1 (by rw [hl1.1, HN.out] at h; exact h) q h2
      have hsl1 : Hid (∀ j (h : j < ls1.length), (ls1[j]).length ≤ 1000000000) := Lib.hid fun j h => by
        have h' : j < ls.length := by rw [← hl1.1]; exact h
        rw [hl1.2 j h' h]; exact HS.out j h'
      have hn1 : Hid (ls1.length = i) := Lib.hid (hl1.1.trans HN.out)
      replace hr1 := Lib.hid hr1
      replace hb1 := Lib.hid hb1
      clear hl1 hm1 HN HS hr0
      go_wp2
      go_loopw [5] (fun t w2 => ∃ (j : Nat), j ≤ i ∧ t = .int .i64 j ∧ RowsX w2 B (.slice pv i cv) ls1 xs ∧ Below B w w2) (fun t _ => i - (intOf t).toNat)
      case atStart => exact ⟨0, Nat.zero_le _, rfl, hr1.out, hb1.out⟩
      case round =>
        obtain ⟨j, hj, rfl, hr2, hb2⟩ := hrel
        by_cases hlt2 : j < i
        · have hj1 : j < ls1.length := by rw [hn1.out]; exact hlt2
          have hjx : j < xs.length := by rw [hr2.len]; exact hj1
          obtain ⟨gv, rfl, hgv, hcv⟩ := hr2.cell j hj1
          obtain ⟨q, c, hxf, _⟩ := (hr2.own j hj1).form2
          have st0 : PushSt wr B (.slice (some ⟨gv, 0, none⟩) i cv) ls1 xs j 0 (xs[j]) (ls1[j]) (xs[j]) := by
            refine ⟨hr2, hj1, rfl, List.getElem?_eq_getElem hjx, by simpa using hr2.own j hj1, ?_⟩
            rcases Nat.eq_zero_or_pos (ls1[j]).length with h0 | h0
            · rcases (hr2.own j hj1).2 with ⟨h1, _⟩ | ⟨g, cap, cur, h1, _⟩
              · exact .inr fun g hg => by rw [h1] at hg; cases hg
              · exact .inl ⟨g, cap, h1, by simpa using h1⟩
            · obtain ⟨g, c', h1, _⟩ := hr2.slot j hj1 h0
              exact .inl ⟨g, c', h1, by simpa using h1⟩
          have hsl := hsl1.out j hj1
          obtain ⟨x, hx⟩ : ∃ x, x = xs[j] := ⟨_, rfl⟩
          obtain ⟨l, hl⟩ : ∃ l, l = ls1[j] := ⟨_, rfl⟩
          rw [← hx, ← hl] at st0
          rw [← hx] at hcv
          rw [← hl] at hsl
          have hform : ∃ q n c, x = .slice q n c := ⟨q, _, c, hx.trans hxf⟩
          clear hxf hx hl
          obtain ⟨q', n', c', rfl⟩ := hform
          have hj0 : (0 : Int) ≤ (j : Int) := Int.natCast_nonneg _
          have hjn : (j : Int) < (i : Int) := by omega
          replace st0 := Lib.hid st0
          replace hb2 := Lib.hid hb2
          clear hr2
          go_wp2
          go_loopw [6, 7] (fun c t w3 => ∃ (k : Nat), k ≤ 64 ∧ t = .int .i64 k ∧ PushSt w3 B (.slice (some ⟨gv, 0, none⟩) i cv) ls1 xs j k (.slice q' n' c') l c ∧ Below B w w3) (fun _ t _ => 64 - (intOf t).toNat)
          case atStart => exact ⟨0, by omega, rfl, st0.out, hb2.out⟩
          case round =>
            obtain ⟨k, hk, rfl, st, hb3⟩ := hrel
            by_cases hk64 : k < 64
            · have hk' : (k : Int) < 64 := by omega
              have hsz := hb3.size
              replace st := Lib.hid st
              replace hb3 := Lib.hid hb3
              rename_i uc _
              go_wp2_with (at_builtin; go_loud (refine push_list rfl _ _ rfl B _ _ _ ls1 xs j k l rfl (st.out.below (Below.alloc_ (Below.refl _ _) _)) _ rfl (World.news_of_block (cs := #[.int .u8 241]) (t := 5) (fr := (0, 0)) (heap_alloc_new wr _)) hsl hk (by simp; omega) ?_))
              intro c4 w4 st4 hb4
              replace st4 := Lib.hid st4
              have hB4 := Lib.hid (hb3.out.trans (((Below.refl _ wr).alloc (Nat.le_trans hB hsz) _).trans hb4))
              clear hb4
              go_wp2
              go_roundw
              case rel => exact ⟨k + 1, by omega, by go_num, st4.out, hB4.out⟩
              case measure => simp [intOf]; omega
            · have hk' : ¬ (k : Int) < 64 := by omega
              have hrw := Lib.hid st.rows
              replace hb3 := Lib.hid hb3
              clear st
              go_wp2
              go_roundw
              case rel => exact ⟨j + 1, by omega, by go_num, hrw.out, hb3.out⟩
              case measure => simp [intOf]; omega
        · obtain rfl : j = i := by omega
          go_wp2
          go_loop [8] (fun t => ∃ (m : Nat), m ≤ j ∧ t = .int .i64 m) (fun t => j - (intOf t).toNat)
          case atStart => exact ⟨0, Nat.zero_le _, rfl⟩
          case round =>
            obtain ⟨m, hm3, rfl⟩ := hrel
            by_cases hlt3 : m < j
            · have hm1' : m < ls1.length := by rw [hn1.out]; exact hlt3
              obtain ⟨gv, rfl, hgv, hcv⟩ := hr2.cell m hm1'
              obtain ⟨q, d, hxf, hq, _, _⟩ := (hr2.own m hm1').form2
              have hmk := Lib.hid (fun k h2 => hMk.out m hm1' k h2)
              have hsl := hsl1.out m hm1'
              generalize ls1[m] = l at *
              rw [hxf] at hcv
              have HQ := Lib.hid hq
              have hm0 : (0 : Int) ≤ (m : Int) := Int.natCast_nonneg _
              have hmn : (m : Int) < (j : Int) := by omega
              replace hr2 := Lib.hid hr2
              clear hq hxf
              go_wp2
              go_loop [9] (fun t => ∃ (k : Nat), k ≤ l.length ∧ t = .int .i64 k) (fun t => l.length - (intOf t).toNat)
              case atStart => exact ⟨0, Nat.zero_le _, rfl⟩
              case round =>
                obtain ⟨k, hk, rfl⟩ := hrel
                by_cases hkl : k < l.length
                · obtain ⟨b, o, rfl, _, hc⟩ := HQ.out k hkl
                  rw [hmk.out k hkl] at hc
                  have hk0 : (0 : Int) ≤ (k : Int) := Int.natCast_nonneg _
                  have hkn : (k : Int) < (l.length : Int) := by omega
                  have e1 : (((m % 200 : Nat) : Int) != (m : Int) % 200) = false := by simp
                  have e2 : (((m % 200 : Nat) : Int) == (m : Int) % 200) = true := by simp
                  go_wp2
                  go_round
                  case rel => exact ⟨k + 1, by omega, by go_num⟩
                  case measure => simp [intOf]; omega
                · go_wp2
                  go_round
                  case rel => exact ⟨m + 1, by omega, by go_num⟩
                  case measure => simp [intOf]; omega
            · go_wp2
              go_ret
              exact ⟨rfl, hb2⟩
end Go.Proofs.YtfapaehjmbekpaaDoor
