/- What Flip does: the halves change places. -/
import Derived.Test.YtaliolnndbnfhaaApart
import Derived.BigRegion
namespace Go.Proofs.Ytaliolnndbnfhaa.Mem
open Go.RowKit Go.Proofs.YtaliolnndbnfhaaW.PrintWords Go.Proofs.YtaliolnndbnfhaaW.PrintLast Go.Proofs.YtaliolnndbnfhaaW.PrintMore
open Hf (rightB hdr headOf partsOf w64_of)
set_option linter.unusedSimpArgs false
set_option linter.unusedVariables false
attribute [local go_sem] run_makeMap
theorem Fr.setg (x : World) (g i : Nat) (v : Value) : Fr (fun k => k = g) x (x.setCell ⟨g, i, none⟩ v) := Fr.of_set x ⟨g, i, none⟩ v rfl
/-- Behind 'Flip': the half in use is empty, the old one is what was in use, the map is new. -/
def FlipPost (w : World) (g : Nat) (size half f : Int) (vw vh : Value) (e : Ending) (w' : World) : Prop :=
  e = .returned (.int .i64 0) ∧ ∃ mb, w.heap.size ≤ mb ∧ w'.heap[g]? = some (.cells (cellsOf size (1 - half) (1 + (1 - half) * size) (.slice none 0 0) (.slice none 0 0) f vw vh (.map (some mb))) 77 (0, 0)) ∧ w'.heap[mb]? = some (.map #[] 0) ∧ Fr (fun k => k = g) w w'
set_option maxHeartbeats 8000000 in
set_option maxRecDepth 100000 in
theorem flip_raw (w : World) (g : Nat) (size half f f2 : Int) (mv : Value) (aw ah bw bh : Option Addr) (nw cw nh ch nw2 cw2 nh2 ch2 : Nat) (hs : 64 ≤ size ∧ size ≤ 65536) (hh : half = 0 ∨ half = 1)
    (hb : w.heap[g]? = some (.cells (cellsOf size half f (.slice aw nw cw) (.slice ah nh ch) f2 (.slice bw nw2 cw2) (.slice bh nh2 ch2) mv) 77 (0, 0))) :
    Calls Try.prog 28 #[.pointer (some ⟨g, 0, none⟩)] w fun e w' => FlipPost w g size half f (.slice aw nw cw) (.slice ah nh ch) e w' := by
  have c0 : w.cell? ⟨g, 0, none⟩ = some (.int .i64 size) := (blk_cell hb 0).trans rfl
  have c1 : w.cell? ⟨g, 1, none⟩ = some (.int .i64 half) := (blk_cell hb 1).trans rfl
  have c2 : w.cell? ⟨g, 2, none⟩ = some (.int .i64 f) := (blk_cell hb 2).trans rfl
  have c3 : w.cell? ⟨g, 3, none⟩ = some (.slice aw nw cw) := (blk_cell hb 3).trans rfl
  have c4 : w.cell? ⟨g, 4, none⟩ = some (.slice ah nh ch) := (blk_cell hb 4).trans rfl
  have c5 : w.cell? ⟨g, 5, none⟩ = some (.int .i64 f2) := (blk_cell hb 5).trans rfl
  have c6 : w.cell? ⟨g, 6, none⟩ = some (.slice bw nw2 cw2) := (blk_cell hb 6).trans rfl
  have c7 : w.cell? ⟨g, 7, none⟩ = some (.slice bh nh2 ch2) := (blk_cell hb 7).trans rfl
  have c8 : w.cell? ⟨g, 8, none⟩ = some mv := (blk_cell hb 8).trans rfl
  have z1 := blk_frozen hb 1
  have z2 := blk_frozen hb 2
  have z3 := blk_frozen hb 3
  have z4 := blk_frozen hb 4
  have z5 := blk_frozen hb 5
  have z6 := blk_frozen hb 6
  have z7 := blk_frozen hb 7
  have z8 := blk_frozen hb 8
  obtain ⟨F, hF⟩ : ∃ F : Int, 1 + (1 - half) * size = F := ⟨_, rfl⟩
  have hlo : 0 ≤ (1 - half) * size ∧ (1 - half) * size ≤ 65536 := by rcases hh with rfl | rfl <;> omega
  have h01 : 0 ≤ 1 - half ∧ 1 - half ≤ 1 := by omega
  obtain ⟨H1, hH1⟩ : ∃ H1 : Int, 1 - half = H1 := ⟨_, rfl⟩
  rw [hH1] at hF hlo h01
  obtain ⟨PR, hPR⟩ : ∃ PR : Int, H1 * size = PR := ⟨_, rfl⟩
  rw [hPR] at hF hlo
  go_enter Try.func28, Try.ntmps28
  go_wp2_with fail
  have hb1 : (w.setCell ⟨g, 1, none⟩ (.int .i64 H1)).heap[g]? = some (.cells (cellsOf size H1 f (.slice aw nw cw) (.slice ah nh ch) f2 (.slice bw nw2 cw2) (.slice bh nh2 ch2) mv) 77 (0, 0)) := blk_put hb 1 _ rfl
  have fr1 : Fr (fun k => k = g) w (w.setCell ⟨g, 1, none⟩ (.int .i64 H1)) := Fr.of_set w ⟨g, 1, none⟩ _ rfl
  clear c0 c1 c2 c3 c4 c5 c6 c7 c8 z1 z2 z3 z4 z5 z6 z7 z8
  revert hb1 fr1
  generalize w.setCell ⟨g, 1, none⟩ (.int .i64 H1) = w1
  intro hb1 fr1
  have c0 : w1.cell? ⟨g, 0, none⟩ = some (.int .i64 size) := (blk_cell hb1 0).trans rfl
  have c1 : w1.cell? ⟨g, 1, none⟩ = some (.int .i64 H1) := (blk_cell hb1 1).trans rfl
  have c2 : w1.cell? ⟨g, 2, none⟩ = some (.int .i64 f) := (blk_cell hb1 2).trans rfl
  have c3 : w1.cell? ⟨g, 3, none⟩ = some (.slice aw nw cw) := (blk_cell hb1 3).trans rfl
  have c4 : w1.cell? ⟨g, 4, none⟩ = some (.slice ah nh ch) := (blk_cell hb1 4).trans rfl
  have c5 : w1.cell? ⟨g, 5, none⟩ = some (.int .i64 f2) := (blk_cell hb1 5).trans rfl
  have c6 : w1.cell? ⟨g, 6, none⟩ = some (.slice bw nw2 cw2) := (blk_cell hb1 6).trans rfl
  have c7 : w1.cell? ⟨g, 7, none⟩ = some (.slice bh nh2 ch2) := (blk_cell hb1 7).trans rfl
  have c8 : w1.cell? ⟨g, 8, none⟩ = some mv := (blk_cell hb1 8).trans rfl
  have z2 := blk_frozen hb1 2
  have z3 := blk_frozen hb1 3
  have z4 := blk_frozen hb1 4
  have z5 := blk_frozen hb1 5
  have z6 := blk_frozen hb1 6
  have z7 := blk_frozen hb1 7
  have z8 := blk_frozen hb1 8
  go_region
  have hb2 := blk_drew (blk_put (blk_put (blk_put (blk_put (blk_put (blk_put hb1 2 (.int .i64 F) rfl) 3 (.slice none 0 0) rfl) 4 (.slice none 0 0) rfl) 5 (.int .i64 f) rfl) 6 (.slice aw nw cw) rfl) 7 (.slice ah nh ch) rfl)
  have fr2 := fr1.trans ((((((Fr.setg w1 g 2 (.int .i64 F)).trans (Fr.setg _ g 3 (.slice none 0 0))).trans (Fr.setg _ g 4 (.slice none 0 0))).trans (Fr.setg _ g 5 (.int .i64 f))).trans (Fr.setg _ g 6 (.slice aw nw cw))).trans (Fr.setg _ g 7 (.slice ah nh ch)))
  have fr3 := fr2.trans (Fr.of_below (below_drew (Below.refl _ _)))
  revert hb2 fr3
  clear c0 c1 c2 c3 c4 c5 c6 c7 c8 z2 z3 z4 z5 z6 z7 z8 fr2
  generalize (((((((w1.setCell { block := g, off := 2 } (Value.int IntKind.i64 F)).setCell { block := g, off := 3 } (Value.slice none 0 0)).setCell { block := g, off := 4 } (Value.slice none 0 0)).setCell { block := g, off := 5 } (Value.int IntKind.i64 f)).setCell { block := g, off := 6 } (Value.slice aw nw cw)).setCell { block := g, off := 7 } (Value.slice ah nh ch)).drew) = w2
  intro hb2 fr3
  have hb3 := blk_alloc hb2 (.map #[] 0)
  have c8 : (w2.alloc (.map #[] 0)).cell? ⟨g, 8, none⟩ = some mv := (blk_cell hb3 8).trans rfl
  have z8 := blk_frozen hb3 8
  go_wp2_with fail
  go_ret
  subst hH1 hPR hF
  have hne : w2.heap.size ≠ g := fun e => by have := blk_lt hb2; omega
  refine ⟨rfl, w2.heap.size, fr3.low.size, blk_put hb3 8 (.map (some w2.heap.size)) rfl, ?_, (fr3.trans (Fr.of_below ((Below.refl _ w2).alloc (Nat.le_refl _) _))).trans (Fr.setg _ g 8 _)⟩
  exact (Below.heap_setCell _ ⟨g, 8, none⟩ _ _ hne).trans (blk_new w2 _)
end Go.Proofs.Ytaliolnndbnfhaa.Mem
