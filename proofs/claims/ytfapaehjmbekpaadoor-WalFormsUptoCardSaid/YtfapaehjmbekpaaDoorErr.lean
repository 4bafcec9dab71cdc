import Derived.Test.YtfapaehjmbekpaaDoorBase
import Derived.Test.YtfapaehjmbekpaaDoorRows
import Derived.Deep.RegionHeld3
import Derived.Deep.RegionLaw
import Derived.Deep.AppendLies
import Derived.Deep.LoopGhost
namespace Go.Proofs.YtfapaehjmbekpaaDoor
open Go.RowKit
set_option linter.unusedSimpArgs false
set_option linter.unusedVariables false

/-- An error of the program as plain data: links, then a number. -/
def ErrIs (w : World) : List (ByteArray × Int) → Int → Value → Prop
  | [], c, v => v = .iface 39 (.int .i64 c)
  | (s, i) :: r, c, v => ∃ b v', v = .iface 68 (.pointer (some ⟨b, 0, none⟩)) ∧ b < w.heap.size ∧ w.cell? ⟨b, 0, none⟩ = some (.string s) ∧ w.cell? ⟨b, 1, none⟩ = some (.int .i64 i) ∧
      w.cell? ⟨b, 2, none⟩ = some v' ∧ ErrIs w r c v'
/-- The cells of a list of links. -/
def lnk : List (ByteArray × Int) → List Value
  | [] => []
  | (s, i) :: r => .string s :: .int .i64 i :: lnk r
theorem lnk_append (a b : List (ByteArray × Int)) : lnk (a ++ b) = lnk a ++ lnk b := by
  induction a with
  | nil => rfl
  | cons x r ih => obtain ⟨s, i⟩ := x; simp [lnk, ih]
theorem Try.infolink : (Tryd.prog.info? 74).map (fun i => (i.zero, i.size, i.bytes)) = some (some (.agg #[.string ⟨#[]⟩, .int .i64 0]), 2, 24) := by kernel_rfl
theorem own_ge {w : World} {B E sz n : Nat} {v : Value} {xs : List Value} (h : w.ownsRow B E sz v n xs) : ∀ k, v.ownBlock = some k → B ≤ k := by
  intro k hk
  rcases h.2 with ⟨rfl, _⟩ | ⟨g, cap, cur, rfl, hb, _⟩
  · simp [Value.ownBlock] at hk
  · simp [Value.ownBlock] at hk
    omega
theorem ta_ptr (p : Option Addr) (w : World) : (Instr.typeAssert (.iface 68 (.pointer p)) 25 68 true).run Tryd.prog w = .ok (.tuple #[.pointer p, .bool true]) w := by kernel_rfl
theorem ta_no (n : Int) (w : World) : (Instr.typeAssert (.iface 39 (.int .i64 n)) 25 68 true).run Tryd.prog w = .ok (.tuple #[.pointer none, .bool false]) w := by kernel_rfl
theorem ta_int (n : Int) (w : World) : (Instr.typeAssert (.iface 39 (.int .i64 n)) 25 39 true).run Tryd.prog w = .ok (.tuple #[.int .i64 n, .bool true]) w := by kernel_rfl
attribute [local go_sem] ta_ptr ta_no ta_int
set_option maxRecDepth 100000 in
set_option maxHeartbeats 1600000 in
theorem told_any (l : List (ByteArray × Int)) (c : Int) (v : Value) (w : World) (he : ErrIs w l c v) (h1 : 1 ≤ l.length) (h2 : l.length ≤ 11) (h0 : c ≠ 0) :
    Calls Tryd.prog 29 #[v] w fun e w' => ∃ s, e = .returned (.tuple #[.agg #[s, .int .i64 c], .bool true]) ∧ w'.ownsRow (w.heap.size + 2) 74 2 s l.length (lnk l) ∧ Below w.heap.size w w' := by
  obtain ⟨i0, hi0, hz0, hz1, hz2⟩ := info_parts Try.infolink
  go_enter Tryd.func29, Tryd.ntmps29
  go_wp2
  go_loopw [0, 5] (fun ev i wr => ∃ (dn rs : List (ByteArray × Int)) (sv : Value), l = dn ++ rs ∧ i = .int .i64 (dn.length : Nat) ∧ ErrIs w rs c ev ∧
      wr.cell? ⟨w.heap.size + 1, 0, none⟩ = some sv ∧ wr.cell? ⟨w.heap.size + 1, 1, none⟩ = some (.int .i64 0) ∧ wr.frozen? ⟨w.heap.size + 1, 0, none⟩ = false ∧ wr.frozen? ⟨w.heap.size + 1, 1, none⟩ = false ∧
      wr.cell? ⟨w.heap.size, 0, none⟩ = some (.slice none 0 0) ∧ wr.cell? ⟨w.heap.size, 1, none⟩ = some (.int .i64 0) ∧ wr.frozen? ⟨w.heap.size, 0, none⟩ = false ∧ wr.frozen? ⟨w.heap.size, 1, none⟩ = false ∧
      wr.ownsRow (w.heap.size + 2) 74 2 sv dn.length (lnk dn) ∧ Below w.heap.size w wr ∧ w.heap.size + 2 ≤ wr.heap.size) (fun _ i _ => 12 - (intOf i).toNat)
  case atStart =>
    refine ⟨[], l, .slice none 0 0, rfl, rfl, he, ?_⟩
    exact ⟨by simp, by simp, by simp, by simp, by simp, by simp, by simp, by simp, World.ownsRow_nil _ _ _ _, ((Below.refl _ _).alloc (Nat.le_refl _) _).alloc (by simp) _, by simp⟩
  case round =>
    obtain ⟨dn, rs, sv, hl, rfl, hev, hc0, hc1, hf0, hf1, hr0, hr1, hq0, hq1, hown, hB, hsz⟩ := hrel
    have HL := Lib.hid hl
    have hlen : dn.length + rs.length = l.length := by rw [hl]; simp
    have hlt : (dn.length : Int) < 12 := by omega
    clear hl he
    cases rs with
    | nil =>
      change _ = _ at hev
      subst hev
      obtain ⟨g, cap, rfl, hg1, hg2⟩ := hown.form (by simp at hlen; omega)
      have hp : (0 : Int) < (dn.length : Int) := by simp at hlen; omega
      have hp2 : decide (0 < dn.length) = true := decide_eq_true (by simp at hlen; omega)
      have hc0' : (c != 0) = true := by rw [bne_iff_ne]; exact h0
      have HOWN := Lib.hid hown
      clear hown
      go_wp2
      go_region_held3 (fun w' => w'.cell? ⟨w.heap.size + 1, 0, none⟩ = some (.slice (some ⟨g, 0, none⟩) dn.length cap) ∧ w'.cell? ⟨w.heap.size + 1, 1, none⟩ = some (.int .i64 c)) ((simp [*, World.cell?_setCell_same', World.cell?_setCell_other, World.cell?_alloc_some, frozen_alloc_lt'])) (fail)
      all_goals go_wp2
      refine bodyPost_ret (v := .tuple #[.agg #[.slice (some ⟨g, 0, none⟩) dn.length cap, .int .i64 c], .bool true]) (by simp [results, Tryd.results29, go_sem, *, World.cell?_setCell_other, World.cell?_setCell_same']) rfl ⟨_, rfl, ?_, ?_⟩
      · rw [show l = dn from by simpa using HL.out]
        exact ((ownsRow_setCell_below (ownsRow_setCell_below (ownsRow_setCell_below HOWN.out (a := ⟨w.heap.size + 1, 1, none⟩) (by simp) _) (a := ⟨w.heap.size, 0, none⟩) (by simp) _) (a := ⟨w.heap.size, 1, none⟩) (by simp) _)).drew
      · exact (((hB.setCell (p := ⟨w.heap.size + 1, 1, none⟩) (by simp) _).setCell (p := ⟨w.heap.size, 0, none⟩) (by simp) _).setCell (p := ⟨w.heap.size, 1, none⟩) (by simp) _).drew
    | cons x r =>
      obtain ⟨s, a⟩ := x
      obtain ⟨b, v', rfl, hb, e0, e1, e2, hev⟩ := hev
      have hb2 : b < w.heap.size + 2 := by omega
      have hbw : b < wr.heap.size := by omega
      have hne1 : ¬ b = w.heap.size + 1 := by omega
      have hne2 : ¬ w.heap.size + 1 = b := by omega
      have hs0 : w.heap.size < wr.heap.size := by omega
      have hs1 : w.heap.size + 1 < wr.heap.size := by omega
      have k0 := (hB.cell (p := ⟨b, 0, none⟩) hb).trans e0
      have k1 := (hB.cell (p := ⟨b, 1, none⟩) hb).trans e1
      have k2 := (hB.cell (p := ⟨b, 2, none⟩) hb).trans e2
      have HEV := Lib.hid hev
      clear hev e0 e1 e2
      go_wp2
      have hsv : 0 < dn.length → ∃ g cap, sv = .slice (some ⟨g, 0, none⟩) dn.length cap ∧ w.heap.size + 2 ≤ g := fun h => by
        obtain ⟨g, cap, hv, hg1, hg2⟩ := hown.form h
        exact ⟨g, cap, hv, hg1⟩
      have hnb : ∀ k, sv.ownBlock = some k → w.heap.size + 2 ≤ k := own_ge hown
      have HOWN := Lib.hid hown
      have HNB := Lib.hid hnb
      clear hown hsv hnb
      go_region_law
        ((refine step_append_lies _ (by rfl) _ _ _ (by rfl) (w.heap.size + 2) 74 i0 _ 2 24 Tryd.underlying28 hi0 hz0 hz1 hz2 rfl (by omega) sv dn.length (lnk dn) (by rfl) (by first | exact (HOWN.out.alloc _).drew | exact HOWN.out.drew.alloc _) ⟨wr.heap.size, 0, none⟩ 1 1 [.string s, .int .i64 a] (by rfl) (by rfl) (World.news_of_block (cs := #[.string s, .int .i64 a]) (t := 74) (fr := (0, 0)) (heap_alloc_new wr _)) (by simp [Value.oneCell']) (by omega) (by unfold maxLen; omega) (by omega) (by simp; omega) (wr.heap.size + 1) (by simp) ?_; intro gg cap w1 hown1 hgrow hat hlt; have hcg := (grow_cells (B := w.heap.size + 2) hgrow HNB.out (by simp; omega)).1; have hfg := (grow_cells (B := w.heap.size + 2) hgrow HNB.out (by simp; omega)).2))
      all_goals go_wp2
      all_goals
        refine ⟨⟨dn ++ [(s, a)], r, .slice (some ⟨gg, 0, none⟩) (dn.length + 1) cap, by rw [HL.out]; simp, by simp, HEV.out, ?_, ?_, ?_, ?_, ?_, ?_, ?_, ?_, ?_, ?_, ?_⟩, ?_⟩
        · (simp [*, World.cell?_setCell_same', World.cell?_setCell_other, World.cell?_alloc_some, frozen_alloc_lt'])
        · (simp [*, World.cell?_setCell_same', World.cell?_setCell_other, World.cell?_alloc_some, frozen_alloc_lt'])
        · (simp [*, World.cell?_setCell_same', World.cell?_setCell_other, World.cell?_alloc_some, frozen_alloc_lt'])
        · (simp [*, World.cell?_setCell_same', World.cell?_setCell_other, World.cell?_alloc_some, frozen_alloc_lt'])
        · (simp [*, World.cell?_setCell_same', World.cell?_setCell_other, World.cell?_alloc_some, frozen_alloc_lt'])
        · (simp [*, World.cell?_setCell_same', World.cell?_setCell_other, World.cell?_alloc_some, frozen_alloc_lt'])
        · (simp [*, World.cell?_setCell_same', World.cell?_setCell_other, World.cell?_alloc_some, frozen_alloc_lt'])
        · (simp [*, World.cell?_setCell_same', World.cell?_setCell_other, World.cell?_alloc_some, frozen_alloc_lt'])
        · rw [lnk_append]
          simpa [lnk] using ownsRow_setCell_below hown1 (a := ⟨w.heap.size + 1, 0, none⟩) (by simp) _
        · exact ((hB.alloc (by omega) _).drew.grown hgrow (by simp; omega) (fun k e => by have := HNB.out k e; omega)).setCell (p := ⟨w.heap.size + 1, 0, none⟩) (by simp) _
        · have := hgrow.size
          simp at this
          simp [World.setCell]
          omega
        · simp [intOf]
          omega
set_option maxRecDepth 100000 in
set_option maxHeartbeats 1600000 in
theorem told_nil (w : World) : Calls Tryd.prog 29 #[.nilIface] w fun e w' => e = .returned (.tuple #[.agg #[.slice none 0 0, .int .i64 0], .bool true]) ∧ Below w.heap.size w w' := by
  go_enter Tryd.func29, Tryd.ntmps29
  go_wp2
  refine wp_loop_once ?_
  go_wp2
  go_region
  all_goals go_wp2
  all_goals refine bodyPost_ret (v := .tuple #[.agg #[.slice none 0 0, .int .i64 0], .bool true]) (by simp [results, Tryd.results29, go_sem]) rfl ⟨rfl, ?_⟩
  all_goals exact (by repeat (first | exact Below.refl _ _ | refine Below.alloc_ ?_ _ | refine Below.drew ?_ | refine below_drewN ?_ | refine Below.setCell ?_ (by first | (simp; done) | (simp; omega)) _))
end Go.Proofs.YtfapaehjmbekpaaDoor
