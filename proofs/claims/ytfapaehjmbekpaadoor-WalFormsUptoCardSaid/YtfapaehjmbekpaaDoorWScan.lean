import Derived.Test.YtfapaehjmbekpaaDoorWRows
import Derived.Deep.LoopGhost
import Derived.Deep.RegionHeld3
namespace Go.Proofs.YtfapaehjmbekpaaDoor
open Go.RowKit
set_option linter.unusedSimpArgs false
set_option linter.unusedVariables false
set_option maxRecDepth 100000 in
theorem fault_at (c : Int) (w : World) : Calls Tryd.prog 19 #[.int .i64 0, .iface 39 (.int .i64 c)] w fun e w' => ∃ b, e = .returned (.iface 68 (.pointer (some ⟨b, 0, none⟩))) ∧ ErrIs w' [(walS, 0)] c (.iface 68 (.pointer (some ⟨b, 0, none⟩))) ∧ Below w.heap.size w w' := by
  go_enter Tryd.func19, Tryd.ntmps19
  go_wp2
  go_ret
  refine ⟨w.heap.size, rfl, ⟨w.heap.size, _, rfl, by simp, ?_, ?_, ?_, rfl⟩, (Below.refl _ _).alloc (Nat.le_refl _) _⟩
  · simp [walS]
  · simp
  · simp
set_option maxRecDepth 100000 in
set_option maxHeartbeats 1600000 in
theorem header_file (f : Nat) (base : Nat) (w : World) (h : f = 0 ∨ 4611686018427387904 < f) (hf : f < 18446744073709551616) :
    Calls Tryd.prog 5 #[.int .u64 f, .int .i64 base] w fun e w' => ∃ b, e = .returned (.tuple #[.slice none 0 0, .iface 68 (.pointer (some ⟨b, 0, none⟩))]) ∧ ErrIs w' [(walS, 0)] 1 (.iface 68 (.pointer (some ⟨b, 0, none⟩))) ∧ Below w.heap.size w w' := by
  have F := fun w => Lib.hid (fault_at 1 w)
  rcases h with rfl | h
  · go_enter Tryd.func5, Tryd.ntmps5
    go_wp2_with fail
    refine (F _).out.mono ?_
    rintro e w1 ⟨b, rfl, he, hb⟩
    replace he := Lib.hid he
    replace hb := Lib.hid hb
    go_wp2
    go_ret2
    exact ⟨b, rfl, he.out, hb.out⟩
  · have h1 : ((f : Nat) : Int) ≠ 0 := by omega
    have h1' : (((f : Nat) : Int) == 0) = false := by simpa using h1
    have hf' : (4611686018427387904 : Int) < (f : Nat) := by omega
    have hff : ((f : Nat) : Int) < 18446744073709551616 := by omega
    clear h1
    go_enter Tryd.func5, Tryd.ntmps5
    go_wp2_with fail
    refine (F _).out.mono ?_
    rintro e w1 ⟨b, rfl, he, hb⟩
    replace he := Lib.hid he
    replace hb := Lib.hid hb
    go_wp2
    go_ret2
    exact ⟨b, rfl, he.out, hb.out⟩
/-- What Scan tells. -/
def ScanPost (file : Nat) (data : List Int) (w : World) (e : Ending) (w' : World) : Prop :=
  (scanR file data = none ∧ e = .returned (.tuple #[.int .i64 0, .slice none 0 0, .int .i64 0, .int .i64 167]) ∧ Below w.heap.size w w') ∨
  (∃ n ls v xs, scanR file data = some (n, ls) ∧ e = .returned (.tuple #[.int .i64 (n : Nat), v, .int .i64 (21 + sizeL ls : Nat), .int .i64 0]) ∧ RowsX w' w.heap.size v ls xs ∧ Below w.heap.size w w')
theorem scan_no {file : Nat} {data : List Int} (h : data.length < 21 ∨ 64 < val32 (data.drop 13) ∨ (file = 0 ∨ 4611686018427387904 < file) ∨ pfxB data (hdr file (val32 (data.drop 13))) = false ∨ (scanAll data).length < val32 (data.drop 13)) : scanR file data = none := by
  unfold scanR
  by_cases h1 : data.length < 21 ∨ 64 < val32 (data.drop 13) ∨ file = 0 ∨ 4611686018427387904 < file
  · rw [if_pos h1]
  · rw [if_neg h1]
    by_cases h2 : pfxB data (hdr file (val32 (data.drop 13))) = true
    · rw [if_pos h2]
      by_cases h3 : (scanAll data).length < val32 (data.drop 13)
      · rw [if_pos h3]
      · rw [h2] at h; simp at h; omega
    · rw [if_neg h2]
theorem scan_yes {file : Nat} {data : List Int} (h1 : 21 ≤ data.length) (h2 : val32 (data.drop 13) ≤ 64) (h3 : file ≠ 0) (h4 : file ≤ 4611686018427387904) (h5 : pfxB data (hdr file (val32 (data.drop 13))) = true) (h6 : val32 (data.drop 13) ≤ (scanAll data).length) :
    scanR file data = some (val32 (data.drop 13), scanAll data) := by
  unfold scanR
  rw [if_neg (by omega), if_pos h5, if_neg (by omega)]
set_option maxRecDepth 100000 in
set_option maxHeartbeats 1600000 in
theorem scan_short (file : Nat) (p : Option Addr) (n c : Nat) (data : List Int) (w : World) (hl : data.length = n) (h : n < 21) : Calls Tryd.prog 13 #[.int .u64 file, .slice p n c] w (ScanPost file data w) := by
  have h1 : ((n : Nat) : Int) < 21 := by omega
  have hn := Lib.hid (scan_no (file := file) (data := data) (.inl (by omega)))
  go_enter Tryd.func13, Tryd.ntmps13
  go_wp2
  go_step3
  go_wp2
  try rw [Exit.noGoto_ret]
  refine bodyPost_ret (v := .tuple #[.int .i64 0, .slice none 0 0, .int .i64 0, .int .i64 167]) (by simp [results, Tryd.results13, go_sem]) rfl ?_
  exact .inl ⟨hn.out, rfl, Below.refl _ _⟩
theorem get32_is (p : Option Addr) (n c : Nat) (l : List Int) (w : World) (v : Nat) (hv : val32 l = v) (hl : l.length = n) (hn : 4 ≤ n) (hm : n ≤ maxLen) (hr : RdB w p l) (hB : Byt l) :
    Calls Tryd.prog 31 #[.slice p n c] w fun e w' => e = .returned (.int .u32 (v : Nat)) ∧ Below w.heap.size w w' := hv ▸ get32_rd p n c l w hl hn hm hr hB
theorem starts_is (p q : Option Addr) (n c m d : Nat) (l r : List Int) (w : World) (v : Bool) (hv : pfxB l r = v) (hl : l.length = n) (hr : r.length = m) (hc : n ≤ c) (hm : n ≤ maxLen) (hp : RdB w p l) (hq : RdB w q r) :
    Calls Tryd.prog 32 #[.slice p n c, .slice q m d] w fun e w' => e = .returned (.bool v) ∧ Below w.heap.size w w' := hv ▸ starts_at p q n c m d l r w hl hr hc hm hp hq
theorem RdB.dropAt {w : World} {b o : Nat} {l : List Int} (k : Nat) (h : RdB w (some ⟨b, o, none⟩) l) : RdB w (some ⟨b, o + k, none⟩) (l.drop k) := fun j hj => by
  simp at hj
  obtain ⟨b', o', e, h2, h3⟩ := h (k + j) (by omega)
  injection e with e
  injection e with e1 e2
  subst e1 e2
  exact ⟨b, o + k, rfl, h2, by rw [Nat.add_assoc, h3]; simp⟩
set_option maxRecDepth 100000 in
set_option maxHeartbeats 1600000 in
theorem scan_big (file : Nat) (p : Option Addr) (n c : Nat) (data : List Int) (w : World) (hl : data.length = n) (h : 21 ≤ n) (hm : n ≤ 10000000000) (hnc : n ≤ c) (hr : RdB w p data) (hY : Byt data) (h64 : 64 < val32 (data.drop 13)) : Calls Tryd.prog 13 #[.int .u64 file, .slice p n c] w (ScanPost file data w) := by
  have hn := Lib.hid (scan_no (file := file) (data := data) (.inr (.inl h64)))
  have h1 : ¬ ((n : Nat) : Int) < 21 := by omega
  obtain ⟨b, o, rfl, _, _⟩ := hr.at (k := 0) (by omega)
  have hc13 : ¬ c = 13 := by omega
  have hv := val32_lt (l := data.drop 13) (by simp; omega) (hY.drop 13)
  obtain ⟨k, hk⟩ : ∃ k, k = val32 (data.drop 13) := ⟨_, rfl⟩
  rw [← hk] at hv h64
  have G := Lib.hid (get32_is (some ⟨b, o + 13, none⟩) (n - 13) (c - 13) (data.drop 13) w k hk.symm (by simp; omega) (by omega) (by unfold maxLen; omega) (hr.dropAt 13) (hY.drop 13))
  have HR := Lib.hid hr
  have HY := Lib.hid hY
  replace hl := Lib.hid hl
  replace hk := Lib.hid hk
  clear hr hY
  go_enter Tryd.func13, Tryd.ntmps13
  go_wp2
  go_step3
  go_wp2_with fail
  refine G.out.mono ?_
  rintro e w1 ⟨rfl, hw1⟩
  replace hw1 := Lib.hid hw1
  clear G
  have h64' : (64 : Int) < (k : Nat) := by omega
  go_wp2
  try rw [Exit.noGoto_ret]
  refine bodyPost_ret (v := .tuple #[.int .i64 0, .slice none 0 0, .int .i64 0, .int .i64 167]) (by simp [results, Tryd.results13, go_sem]) rfl ?_
  exact .inl ⟨hn.out, rfl, hw1.out⟩
set_option maxRecDepth 100000 in
set_option maxHeartbeats 1600000 in
theorem scan_file (file : Nat) (p : Option Addr) (n c : Nat) (data : List Int) (w : World) (hl : data.length = n) (h : 21 ≤ n) (hm : n ≤ 10000000000) (hnc : n ≤ c) (hr : RdB w p data) (hY : Byt data) (h64 : val32 (data.drop 13) ≤ 64) (hf : file = 0 ∨ 4611686018427387904 < file) (hf2 : file < 18446744073709551616) : Calls Tryd.prog 13 #[.int .u64 file, .slice p n c] w (ScanPost file data w) := by
  have hn := Lib.hid (scan_no (file := file) (data := data) (.inr (.inr (.inl hf))))
  replace hf := Lib.hid hf
  have h1 : ¬ ((n : Nat) : Int) < 21 := by omega
  obtain ⟨b, o, rfl, _, _⟩ := hr.at (k := 0) (by omega)
  have hc13 : ¬ c = 13 := by omega
  have hv := val32_lt (l := data.drop 13) (by simp; omega) (hY.drop 13)
  obtain ⟨k, hk⟩ : ∃ k, k = val32 (data.drop 13) := ⟨_, rfl⟩
  rw [← hk] at hv h64
  have G := Lib.hid (get32_is (some ⟨b, o + 13, none⟩) (n - 13) (c - 13) (data.drop 13) w k hk.symm (by simp; omega) (by omega) (by unfold maxLen; omega) (hr.dropAt 13) (hY.drop 13))
  have HR := Lib.hid hr
  have HY := Lib.hid hY
  replace hl := Lib.hid hl
  replace hk := Lib.hid hk
  clear hr hY
  go_enter Tryd.func13, Tryd.ntmps13
  go_wp2
  go_step3
  go_wp2_with fail
  refine G.out.mono ?_
  rintro e w1 ⟨rfl, hw1⟩
  replace hw1 := Lib.hid hw1
  clear G
  have h64' : ¬ (64 : Int) < (k : Nat) := by omega
  have h64'' : ((k : Nat) : Int) ≤ 64 := by omega
  go_wp2_with fail
  refine (header_file file k _ hf.out hf2).mono ?_
  rintro e w2 ⟨b2, rfl, he, hw2⟩
  replace hw2 := Lib.hid hw2
  clear he
  go_wp2
  try rw [Exit.noGoto_ret]
  refine bodyPost_ret (v := .tuple #[.int .i64 0, .slice none 0 0, .int .i64 0, .int .i64 167]) (by simp [results, Tryd.results13, go_sem]) rfl ?_
  exact .inl ⟨hn.out, rfl, Below.on hw1.out hw2.out⟩
set_option maxRecDepth 100000 in
set_option maxHeartbeats 1600000 in
theorem scan_head (file : Nat) (p : Option Addr) (n c : Nat) (data : List Int) (w : World) (hl : data.length = n) (h : 21 ≤ n) (hm : n ≤ 10000000000) (hnc : n ≤ c) (hr : RdB w p data) (hY : Byt data) (h64 : val32 (data.drop 13) ≤ 64) (hf : file ≠ 0) (hf2 : file ≤ 4611686018427387904) (hT : Nib w) (hp : pfxB data (hdr file (val32 (data.drop 13))) = false) : Calls Tryd.prog 13 #[.int .u64 file, .slice p n c] w (ScanPost file data w) := by
  have hn := Lib.hid (scan_no (file := file) (data := data) (.inr (.inr (.inr (.inl hp)))))
  replace hf := Lib.hid hf
  replace hT := Lib.hid hT
  replace hp := Lib.hid hp
  have h1 : ¬ ((n : Nat) : Int) < 21 := by omega
  obtain ⟨b, o, rfl, _, _⟩ := hr.at (k := 0) (by omega)
  have hc13 : ¬ c = 13 := by omega
  have hv := val32_lt (l := data.drop 13) (by simp; omega) (hY.drop 13)
  obtain ⟨k, hk⟩ : ∃ k, k = val32 (data.drop 13) := ⟨_, rfl⟩
  rw [← hk] at hv h64
  have G := Lib.hid (get32_is (some ⟨b, o + 13, none⟩) (n - 13) (c - 13) (data.drop 13) w k hk.symm (by simp; omega) (by omega) (by unfold maxLen; omega) (hr.dropAt 13) (hY.drop 13))
  have HR := Lib.hid hr
  have HY := Lib.hid hY
  replace hl := Lib.hid hl
  replace hk := Lib.hid hk
  clear hr hY
  go_enter Tryd.func13, Tryd.ntmps13
  go_wp2
  go_step3
  go_wp2_with fail
  refine G.out.mono ?_
  rintro e w1 ⟨rfl, hw1⟩
  replace hw1 := Lib.hid hw1
  clear G
  have h64' : ¬ (64 : Int) < (k : Nat) := by omega
  have h64'' : ((k : Nat) : Int) ≤ 64 := by omega
  go_wp2_with fail
  refine (header_ok file k _ hf.out hf2 h64 (hT.out.below (Nat.le_refl _) hw1.out)).mono ?_
  rintro e w2 ⟨v, rfl, ho, hw2⟩
  obtain ⟨q, d, rfl, hq⟩ := ho.form
  have hw := Lib.hid (Below.on hw1.out hw2)
  have S := Lib.hid (starts_is (some ⟨b, o, none⟩) q n c 21 d data (hdr file k) w2 false (by rw [hk.out]; exact hp.out) hl.out rfl hnc (by unfold maxLen; omega) (HR.out.below hw.out) hq)
  rw [hdr_len]
  clear ho hw2 hq
  go_wp2_with fail
  refine S.out.mono ?_
  rintro e w3 ⟨rfl, hw3⟩
  replace hw3 := Lib.hid hw3
  go_wp2
  try rw [Exit.noGoto_ret]
  refine bodyPost_ret (v := .tuple #[.int .i64 0, .slice none 0 0, .int .i64 0, .int .i64 167]) (by simp [results, Tryd.results13, go_sem]) rfl ?_
  exact .inl ⟨hn.out, rfl, Below.on hw.out hw3.out⟩
end Go.Proofs.YtfapaehjmbekpaaDoor
