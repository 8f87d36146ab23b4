/- SameType whole, and SameMakers for the answer true (out of the kit's print). -/
import Derived.Test.YtdhfnfoimbijmaaPa0
namespace Go.Proofs.Ytdhfnfoimbijmaa.Pa
open Go.RowKit Go.Proofs.YtdhfnfoimbijmaaW.PrintWords Go.Proofs.YtdhfnfoimbijmaaW.PrintLast Go.Proofs.YtdhfnfoimbijmaaW.PrintMore
attribute [local go_sem] max2_int min2_int max_two min_two max_three min_three max_four min_four   -- for this text's walks alone
set_option linter.unusedVariables false
set_option linter.unusedSimpArgs false

/-! ### kindlingref05_SameType: function 42 -/
mutual
def kindlingref05_SameType.j0 : Nat → Bool → Int → Int → ByteArray → List (S26) → Int → Int → ByteArray → List (S26) → Option (Bool)
  | 0, _, _, _, _, _, _, _, _, _ => none
  | k + 1, x33, x104000, x104001, x104002, x104003, x105000, x105001, x105002, x105003 => if x33 = true then (some false) else (kindlingref05_SameType.l0 k 0 x104000 x104001 x104002 x104003 x105000 x105001 x105002 x105003)
def kindlingref05_SameType.l0 : Nat → Int → Int → Int → ByteArray → List (S26) → Int → Int → ByteArray → List (S26) → Option (Bool)
  | 0, _, _, _, _, _, _, _, _, _ => none
  | k + 1, x5, x104000, x104001, x104002, x104003, x105000, x105001, x105002, x105003 => if x5 < (x104003.length : Int) then (if 0 ≤ x5 then (if x5 < (x105003.length : Int) then ((kindlingref05_SameType.f k ((rd_T26 x104003 x5).f0) ((rd_T26 x104003 x5).f1) ((rd_T26 x104003 x5).f2) ((rd_T26 x104003 x5).f3) ((rd_T26 x105003 x5).f0) ((rd_T26 x105003 x5).f1) ((rd_T26 x105003 x5).f2) ((rd_T26 x105003 x5).f3)).bind fun t107 => (if t107 = true then (kindlingref05_SameType.l0 k (wrap64 (x5 + 1)) x104000 x104001 x104002 x104003 x105000 x105001 x105002 x105003) else (some false))) else (none)) else (none)) else (some true)
def kindlingref05_SameType.f : Nat → Int → Int → ByteArray → List (S26) → Int → Int → ByteArray → List (S26) → Option (Bool)
  | 0, _, _, _, _, _, _, _, _ => none
  | k + 1, a0_0, a0_1, a0_2, l0_3, a1_0, a1_1, a1_2, l1_3 => if a0_0 = a1_0 then (if a0_1 = a1_1 then (if a0_2.toList = a1_2.toList then (kindlingref05_SameType.j0 k ((l0_3.length : Int) != (l1_3.length : Int)) a0_0 a0_1 a0_2 l0_3 a1_0 a1_1 a1_2 l1_3) else (kindlingref05_SameType.j0 k true a0_0 a0_1 a0_2 l0_3 a1_0 a1_1 a1_2 l1_3)) else (kindlingref05_SameType.j0 k true a0_0 a0_1 a0_2 l0_3 a1_0 a1_1 a1_2 l1_3)) else (kindlingref05_SameType.j0 k true a0_0 a0_1 a0_2 l0_3 a1_0 a1_1 a1_2 l1_3)
end
theorem kindlingref05_SameType.mono_l : ∀ k, (∀ y0 y1 y2 y3 y4 y5 y6 y7, LeO (kindlingref05_SameType.f k y0 y1 y2 y3 y4 y5 y6 y7) (kindlingref05_SameType.f (k + 1) y0 y1 y2 y3 y4 y5 y6 y7)) ∧ (∀ y0 y1 y2 y3 y4 y5 y6 y7 y8, LeO (kindlingref05_SameType.j0 k y0 y1 y2 y3 y4 y5 y6 y7 y8) (kindlingref05_SameType.j0 (k + 1) y0 y1 y2 y3 y4 y5 y6 y7 y8)) ∧ (∀ y0 y1 y2 y3 y4 y5 y6 y7 y8, LeO (kindlingref05_SameType.l0 k y0 y1 y2 y3 y4 y5 y6 y7 y8) (kindlingref05_SameType.l0 (k + 1) y0 y1 y2 y3 y4 y5 y6 y7 y8))
  | 0 => ⟨fun _ _ _ _ _ _ _ _ r h => by simp [kindlingref05_SameType.f] at h, fun _ _ _ _ _ _ _ _ _ r h => by simp [kindlingref05_SameType.j0] at h, fun _ _ _ _ _ _ _ _ _ r h => by simp [kindlingref05_SameType.l0] at h⟩
  | k + 1 => by
    obtain ⟨ih0, ih1, ih2⟩ := kindlingref05_SameType.mono_l k
    refine ⟨?_, ?_, ?_⟩
    · intro y0 y1 y2 y3 y4 y5 y6 y7
      unfold kindlingref05_SameType.f
      repeat' first
      | (with_reducible exact ih0 _ _ _ _ _ _ _ _)
      | (with_reducible exact ih1 _ _ _ _ _ _ _ _ _)
      | (with_reducible exact ih2 _ _ _ _ _ _ _ _ _)
      | (with_reducible exact LeO.refl _)
      | (with_reducible exact LeO.none _)
      | (with_reducible refine LeO.ite ?_ ?_)
      | (with_reducible refine LeO.bind ?_ (fun _ => ?_))
      | exact ih0 _ _ _ _ _ _ _ _
      | exact ih1 _ _ _ _ _ _ _ _ _
      | exact ih2 _ _ _ _ _ _ _ _ _
      | exact LeO.none _
      | refine LeO.ite ?_ ?_
      | refine LeO.bind ?_ (fun _ => ?_)
    · intro y0 y1 y2 y3 y4 y5 y6 y7 y8
      unfold kindlingref05_SameType.j0
      repeat' first
      | (with_reducible exact ih0 _ _ _ _ _ _ _ _)
      | (with_reducible exact ih1 _ _ _ _ _ _ _ _ _)
      | (with_reducible exact ih2 _ _ _ _ _ _ _ _ _)
      | (with_reducible exact LeO.refl _)
      | (with_reducible exact LeO.none _)
      | (with_reducible refine LeO.ite ?_ ?_)
      | (with_reducible refine LeO.bind ?_ (fun _ => ?_))
      | exact ih0 _ _ _ _ _ _ _ _
      | exact ih1 _ _ _ _ _ _ _ _ _
      | exact ih2 _ _ _ _ _ _ _ _ _
      | exact LeO.none _
      | refine LeO.ite ?_ ?_
      | refine LeO.bind ?_ (fun _ => ?_)
    · intro y0 y1 y2 y3 y4 y5 y6 y7 y8
      unfold kindlingref05_SameType.l0
      repeat' first
      | (with_reducible exact ih0 _ _ _ _ _ _ _ _)
      | (with_reducible exact ih1 _ _ _ _ _ _ _ _ _)
      | (with_reducible exact ih2 _ _ _ _ _ _ _ _ _)
      | (with_reducible exact LeO.refl _)
      | (with_reducible exact LeO.none _)
      | (with_reducible refine LeO.ite ?_ ?_)
      | (with_reducible refine LeO.bind ?_ (fun _ => ?_))
      | exact ih0 _ _ _ _ _ _ _ _
      | exact ih1 _ _ _ _ _ _ _ _ _
      | exact ih2 _ _ _ _ _ _ _ _ _
      | exact LeO.none _
      | refine LeO.ite ?_ ?_
      | refine LeO.bind ?_ (fun _ => ?_)
theorem kindlingref05_SameType.mono : ∀ a0 a1 a2 a3 a4 a5 a6 a7 k, LeO (kindlingref05_SameType.f k a0 a1 a2 a3 a4 a5 a6 a7) (kindlingref05_SameType.f (k + 1) a0 a1 a2 a3 a4 a5 a6 a7) := by
  intro a0 a1 a2 a3 a4 a5 a6 a7 k
  obtain ⟨ih0, ih1, ih2⟩ := kindlingref05_SameType.mono_l k
  exact ih0 a0 a1 a2 a3 a4 a5 a6 a7
def kindlingref05_SameType.T6 : Bool × List (List Nat × List Nat) := (true, [([], []), ([0], [0]), ([], []), ([1, 2], [1, 2]), ([3], [3]), ([], []), ([5], [5]), ([], []), ([6, 7], [6, 7]), ([8], [8]), ([4, 9], [4, 9]), ([10], [10])])
def kindlingref05_SameType.B6 : List Nat := [0, 1, 0, 7, 15, 0, 32, 0, 224, 480, 1023, 2047]
theorem kindlingref05_SameType.tab6 : rtab .any (opsOf Try.f42 6) = kindlingref05_SameType.T6 := by kernel_rfl
theorem kindlingref05_SameType.bits6 : waitsOk kindlingref05_SameType.T6.2 kindlingref05_SameType.B6 = true := by kernel_rfl
set_option maxHeartbeats 8000000 in
set_option maxRecDepth 100000 in
theorem kindlingref05_SameType.calls (k : Nat) : ∀ (a0_0 : Int) (a0_1 : Int) (a0_2 : ByteArray) (A0_3 : Option Addr) (c0_3 : Nat) (l0_3 : List (S26)) (a1_0 : Int) (a1_1 : Int) (a1_2 : ByteArray) (A1_3 : Option Addr) (c1_3 : Nat) (l1_3 : List (S26)) (r : Bool) (w : World) (hr0_3 : Kd.C k26 w A0_3 l0_3.length l0_3) (hc0_3 : l0_3.length ≤ c0_3) (hr1_3 : Kd.C k26 w A1_3 l1_3.length l1_3) (hc1_3 : l1_3.length ≤ c1_3) (h : kindlingref05_SameType.f k a0_0 a0_1 a0_2 l0_3 a1_0 a1_1 a1_2 l1_3 = some r),
    Calls Try.prog 42 #[.agg #[.int .i64 a0_0, .int .i64 a0_1, .string a0_2, .slice A0_3 l0_3.length c0_3], .agg #[.int .i64 a1_0, .int .i64 a1_1, .string a1_2, .slice A1_3 l1_3.length c1_3]] w fun e w' => e = .returned (.bool r) ∧ Below w.heap.size w w' := by
  induction k using Nat.strongRecOn with
  | _ k ih =>
  intro a0_0 a0_1 a0_2 A0_3 c0_3 l0_3 a1_0 a1_1 a1_2 A1_3 c1_3 l1_3 r w hr0_3 hc0_3 hr1_3 hc1_3 h
  cases k with
  | zero => exact absurd h (by simp [kindlingref05_SameType.f])
  | succ k =>
  simp only [kindlingref05_SameType.f] at h
  have hu26 := Try.underlying26
  have HR0_3 := Aside0.mk hr0_3
  have HC0_3 := Aside0.mk hc0_3
  clear hr0_3 hc0_3
  have HR1_3 := Aside0.mk hr1_3
  have HC1_3 := Aside0.mk hc1_3
  clear hr1_3 hc1_3
  have HB := Aside0.mk (Below.refl w.heap.size w)
  have H : (if a0_0 = a1_0 then (if a0_1 = a1_1 then (if a0_2.toList = a1_2.toList then (kindlingref05_SameType.j0 k ((l0_3.length : Int) != (l1_3.length : Int)) a0_0 a0_1 a0_2 l0_3 a1_0 a1_1 a1_2 l1_3) else (kindlingref05_SameType.j0 k true a0_0 a0_1 a0_2 l0_3 a1_0 a1_1 a1_2 l1_3)) else (kindlingref05_SameType.j0 k true a0_0 a0_1 a0_2 l0_3 a1_0 a1_1 a1_2 l1_3)) else (kindlingref05_SameType.j0 k true a0_0 a0_1 a0_2 l0_3 a1_0 a1_1 a1_2 l1_3)) = some r := h
  clear h
  have HC3 := Aside0.mk H
  clear H
  go_enter Try.func42, Try.ntmps42
  go_upto_region 1 with (first | ((with_reducible refine gate_dst (N := 2) rfl ?_); (try (refine gate_guard (by rfl) ?_; dsimp only)); refine box_event ?hg (N := 2) ?hd (cs := #[.int .i64 a0_0, .int .i64 a0_1, .string a0_2, .slice A0_3 l0_3.length c0_3]) (t := 26) ?hr ?_; (case hd => rfl); (case hg => rfl); (case hr => first | (go_simp; done) | (go_simp; rfl)); intro gb103 hg w4 hbox hb; have n0_ := Aside0.mk (below_step (by repeat (first | (with_reducible first | exact HB.out | apply below_alloc | apply pw_below_drewN | apply below_drew1) | exact HB.out)) hb); have n1_ := Aside0.mk (hbox); have n2_ := Aside0.mk ((by rw [hg]; exact (below_size (by repeat (first | (with_reducible first | exact HB.out | apply below_alloc | apply pw_below_drewN | apply below_drew1) | exact HB.out))) : w.heap.size ≤ gb103)); have n3_ := Aside0.mk ((by rw [hg]; exact (below_size (by repeat (first | (with_reducible first | exact HB.out | apply below_alloc | apply pw_below_drewN | apply below_drew1) | exact HB.out))) : w.heap.size ≤ gb103)); clear HB; have HB := n0_; have BK103 := n1_; have GW103 := n2_; have GE103 := n3_; clear n0_ n1_ n2_ n3_; clear hb hbox hg) | ((with_reducible refine gate_dst (N := 3) rfl ?_); (try (refine gate_guard (by rfl) ?_; dsimp only)); refine box_event ?hg (N := 3) ?hd (cs := #[.int .i64 a1_0, .int .i64 a1_1, .string a1_2, .slice A1_3 l1_3.length c1_3]) (t := 26) ?hr ?_; (case hd => rfl); (case hg => rfl); (case hr => first | (go_simp; done) | (go_simp; rfl)); intro gb104 hg w5 hbox hb; have n0_ := Aside0.mk (blk_below (g := gb103) (o := .cells #[.int .i64 a0_0, .int .i64 a0_1, .string a0_2, .slice A0_3 l0_3.length c0_3] 26 (0, 0)) (by (with_reducible repeat (first | refine blk_drewN ?_ _ | refine blk_drew ?_ | refine blk_alloc ?_ _)); exact BK103.out) hb); have n1_ := Aside0.mk (below_step (by repeat (first | (with_reducible first | exact HB.out | apply below_alloc | apply pw_below_drewN | apply below_drew1 | refine below_set ?_ GE103.out) | exact HB.out)) hb); have n2_ := Aside0.mk (hbox); have n3_ := Aside0.mk ((by rw [hg]; exact (below_size (by repeat (first | (with_reducible first | exact HB.out | apply below_alloc | apply pw_below_drewN | apply below_drew1 | refine below_set ?_ GE103.out) | exact HB.out))) : w.heap.size ≤ gb104)); have n4_ := Aside0.mk ((by rw [hg]; exact (below_size (by repeat (first | (with_reducible first | exact HB.out | apply below_alloc | apply pw_below_drewN | apply below_drew1 | refine below_set ?_ GE103.out) | exact HB.out))) : w.heap.size ≤ gb104)); have n5_ := Aside0.mk ((by rw [hg]; exact Nat.ne_of_lt (blk_lt (g := gb103) (o := .cells #[.int .i64 a0_0, .int .i64 a0_1, .string a0_2, .slice A0_3 l0_3.length c0_3] 26 (0, 0)) (by (with_reducible repeat (first | refine blk_drewN ?_ _ | refine blk_drew ?_ | refine blk_alloc ?_ _)); exact BK103.out)) : gb103 ≠ gb104)); have n6_ := Aside0.mk ((by rw [hg]; exact Nat.ne_of_gt (blk_lt (g := gb103) (o := .cells #[.int .i64 a0_0, .int .i64 a0_1, .string a0_2, .slice A0_3 l0_3.length c0_3] 26 (0, 0)) (by (with_reducible repeat (first | refine blk_drewN ?_ _ | refine blk_drew ?_ | refine blk_alloc ?_ _)); exact BK103.out)) : gb104 ≠ gb103)); clear BK103; clear HB; have BK103 := n0_; have HB := n1_; have BK104 := n2_; have GW104 := n3_; have GE104 := n4_; have NB103_104 := n5_; have NB104_103 := n6_; clear n0_ n1_ n2_ n3_ n4_ n5_ n6_; clear hb hbox hg))
  (try simp only [Act.put, List.setIfInBounds_toArray, List.set_cons_zero, List.set_cons_succ])
  go_cut [33] (fun v33 wc => ∃ (kq : Nat) (x33_2 : Bool), v33 = .bool x33_2 ∧ Aside0 (kindlingref05_SameType.j0 kq x33_2 a0_0 a0_1 a0_2 l0_3 a1_0 a1_1 a1_2 l1_3 = some r) ∧ Aside0 (kq ≤ k) ∧ Aside0 (wc.heap[gb103]? = some (.cells #[.int .i64 a0_0, .int .i64 a0_1, .string a0_2, (.slice A0_3 l0_3.length c0_3)] 26 (0, 0))) ∧ Aside0 (wc.heap[gb104]? = some (.cells #[.int .i64 a1_0, .int .i64 a1_1, .string a1_2, (.slice A1_3 l1_3.length c1_3)] 26 (0, 0))) ∧ Aside0 (Below w.heap.size w wc))
  case first =>
    have H := HC3.out
    clear HC3
    by_cases c6 : a0_0 = a1_0
    · rw [if_pos c6] at H
      have c6b0 : (a0_0 == a1_0) = true := beq_iff_eq.mpr c6
      have c6b1 : (a0_0 != a1_0) = false := bne_eq_false_iff_eq.mpr c6
      clear c6
      (first | rw [c6b0] | (simp only [i64_w, i32_w]; rw [c6b0]) | skip)
      by_cases c7 : a0_1 = a1_1
      · rw [if_pos c7] at H
        have c7b0 : (a0_1 == a1_1) = true := beq_iff_eq.mpr c7
        have c7b1 : (a0_1 != a1_1) = false := bne_eq_false_iff_eq.mpr c7
        clear c7
        by_cases c8 : a0_2.toList = a1_2.toList
        · rw [if_pos c8] at H
          have c8b0 : (a0_2.toList == a1_2.toList) = true := beq_iff_eq.mpr c8
          have c8b1 : (a0_2.toList != a1_2.toList) = false := bne_eq_false_iff_eq.mpr c8
          clear c8
          have H' := Aside0.mk H
          clear H
          have hnb9 := NB103_104.out
          have hnc9 := NB104_103.out
          have hcz10_0 : w5.cell? ⟨gb103, 0, none⟩ = some (.int .i64 a0_0) := (blk_cell BK103.out 0).trans rfl
          have hcz10_1 : w5.cell? ⟨gb103, 1, none⟩ = some (.int .i64 a0_1) := (blk_cell BK103.out 1).trans rfl
          have hcz10_2 : w5.cell? ⟨gb103, 2, none⟩ = some (.string a0_2) := (blk_cell BK103.out 2).trans rfl
          have hcz10_3 : w5.cell? ⟨gb103, 3, none⟩ = some (.slice A0_3 l0_3.length c0_3) := (blk_cell BK103.out 3).trans rfl
          have hfz10_0 := blk_frozen BK103.out 0
          have hfz10_1 := blk_frozen BK103.out 1
          have hfz10_2 := blk_frozen BK103.out 2
          have hfz10_3 := blk_frozen BK103.out 3
          have hcz11_0 : w5.cell? ⟨gb104, 0, none⟩ = some (.int .i64 a1_0) := (blk_cell BK104.out 0).trans rfl
          have hcz11_1 : w5.cell? ⟨gb104, 1, none⟩ = some (.int .i64 a1_1) := (blk_cell BK104.out 1).trans rfl
          have hcz11_2 : w5.cell? ⟨gb104, 2, none⟩ = some (.string a1_2) := (blk_cell BK104.out 2).trans rfl
          have hcz11_3 : w5.cell? ⟨gb104, 3, none⟩ = some (.slice A1_3 l1_3.length c1_3) := (blk_cell BK104.out 3).trans rfl
          have hfz11_0 := blk_frozen BK104.out 0
          have hfz11_1 := blk_frozen BK104.out 1
          have hfz11_2 := blk_frozen BK104.out 2
          have hfz11_3 := blk_frozen BK104.out 3
          go_wp2
          go_meet
          case rel => exact ⟨_, (((l0_3.length : Int) != (l1_3.length : Int))), (by first | rfl | (simp; done) | (simp [*]; done)), H', ⟨by first | omega | exact Nat.le_refl _⟩, ⟨by (with_reducible repeat (first | refine blk_drewN ?_ _ | refine blk_drew ?_ | refine blk_alloc ?_ _)); exact BK103.out⟩, ⟨by (with_reducible repeat (first | refine blk_drewN ?_ _ | refine blk_drew ?_ | refine blk_alloc ?_ _)); exact BK104.out⟩, ⟨by repeat (first | (with_reducible first | exact HB.out | apply below_alloc | apply pw_below_drewN | apply below_drew1 | refine below_set ?_ GE103.out | refine below_set ?_ GE104.out) | exact HB.out)⟩⟩
        · rw [if_neg c8] at H
          have c8b0 : (a0_2.toList == a1_2.toList) = false := beq_eq_false_iff_ne.mpr c8
          have c8b1 : (a0_2.toList != a1_2.toList) = true := bne_iff_ne.mpr c8
          have H' := Aside0.mk H
          clear H
          have hnb12 := NB103_104.out
          have hnc12 := NB104_103.out
          have hcz13_0 : w5.cell? ⟨gb103, 0, none⟩ = some (.int .i64 a0_0) := (blk_cell BK103.out 0).trans rfl
          have hcz13_1 : w5.cell? ⟨gb103, 1, none⟩ = some (.int .i64 a0_1) := (blk_cell BK103.out 1).trans rfl
          have hcz13_2 : w5.cell? ⟨gb103, 2, none⟩ = some (.string a0_2) := (blk_cell BK103.out 2).trans rfl
          have hcz13_3 : w5.cell? ⟨gb103, 3, none⟩ = some (.slice A0_3 l0_3.length c0_3) := (blk_cell BK103.out 3).trans rfl
          have hfz13_0 := blk_frozen BK103.out 0
          have hfz13_1 := blk_frozen BK103.out 1
          have hfz13_2 := blk_frozen BK103.out 2
          have hfz13_3 := blk_frozen BK103.out 3
          have hcz14_0 : w5.cell? ⟨gb104, 0, none⟩ = some (.int .i64 a1_0) := (blk_cell BK104.out 0).trans rfl
          have hcz14_1 : w5.cell? ⟨gb104, 1, none⟩ = some (.int .i64 a1_1) := (blk_cell BK104.out 1).trans rfl
          have hcz14_2 : w5.cell? ⟨gb104, 2, none⟩ = some (.string a1_2) := (blk_cell BK104.out 2).trans rfl
          have hcz14_3 : w5.cell? ⟨gb104, 3, none⟩ = some (.slice A1_3 l1_3.length c1_3) := (blk_cell BK104.out 3).trans rfl
          have hfz14_0 := blk_frozen BK104.out 0
          have hfz14_1 := blk_frozen BK104.out 1
          have hfz14_2 := blk_frozen BK104.out 2
          have hfz14_3 := blk_frozen BK104.out 3
          go_wp2
          go_meet
          case rel => exact ⟨_, (true), (by first | rfl | (simp; done) | (simp [*]; done)), H', ⟨by first | omega | exact Nat.le_refl _⟩, ⟨by (with_reducible repeat (first | refine blk_drewN ?_ _ | refine blk_drew ?_ | refine blk_alloc ?_ _)); exact BK103.out⟩, ⟨by (with_reducible repeat (first | refine blk_drewN ?_ _ | refine blk_drew ?_ | refine blk_alloc ?_ _)); exact BK104.out⟩, ⟨by repeat (first | (with_reducible first | exact HB.out | apply below_alloc | apply pw_below_drewN | apply below_drew1 | refine below_set ?_ GE103.out | refine below_set ?_ GE104.out) | exact HB.out)⟩⟩
      · rw [if_neg c7] at H
        have c7b0 : (a0_1 == a1_1) = false := beq_eq_false_iff_ne.mpr c7
        have c7b1 : (a0_1 != a1_1) = true := bne_iff_ne.mpr c7
        have H' := Aside0.mk H
        clear H
        have hnb15 := NB103_104.out
        have hnc15 := NB104_103.out
        have hcz16_0 : w5.cell? ⟨gb103, 0, none⟩ = some (.int .i64 a0_0) := (blk_cell BK103.out 0).trans rfl
        have hcz16_1 : w5.cell? ⟨gb103, 1, none⟩ = some (.int .i64 a0_1) := (blk_cell BK103.out 1).trans rfl
        have hcz16_2 : w5.cell? ⟨gb103, 2, none⟩ = some (.string a0_2) := (blk_cell BK103.out 2).trans rfl
        have hcz16_3 : w5.cell? ⟨gb103, 3, none⟩ = some (.slice A0_3 l0_3.length c0_3) := (blk_cell BK103.out 3).trans rfl
        have hfz16_0 := blk_frozen BK103.out 0
        have hfz16_1 := blk_frozen BK103.out 1
        have hfz16_2 := blk_frozen BK103.out 2
        have hfz16_3 := blk_frozen BK103.out 3
        have hcz17_0 : w5.cell? ⟨gb104, 0, none⟩ = some (.int .i64 a1_0) := (blk_cell BK104.out 0).trans rfl
        have hcz17_1 : w5.cell? ⟨gb104, 1, none⟩ = some (.int .i64 a1_1) := (blk_cell BK104.out 1).trans rfl
        have hcz17_2 : w5.cell? ⟨gb104, 2, none⟩ = some (.string a1_2) := (blk_cell BK104.out 2).trans rfl
        have hcz17_3 : w5.cell? ⟨gb104, 3, none⟩ = some (.slice A1_3 l1_3.length c1_3) := (blk_cell BK104.out 3).trans rfl
        have hfz17_0 := blk_frozen BK104.out 0
        have hfz17_1 := blk_frozen BK104.out 1
        have hfz17_2 := blk_frozen BK104.out 2
        have hfz17_3 := blk_frozen BK104.out 3
        go_wp2
        go_meet
        case rel => exact ⟨_, (true), (by first | rfl | (simp; done) | (simp [*]; done)), H', ⟨by first | omega | exact Nat.le_refl _⟩, ⟨by (with_reducible repeat (first | refine blk_drewN ?_ _ | refine blk_drew ?_ | refine blk_alloc ?_ _)); exact BK103.out⟩, ⟨by (with_reducible repeat (first | refine blk_drewN ?_ _ | refine blk_drew ?_ | refine blk_alloc ?_ _)); exact BK104.out⟩, ⟨by repeat (first | (with_reducible first | exact HB.out | apply below_alloc | apply pw_below_drewN | apply below_drew1 | refine below_set ?_ GE103.out | refine below_set ?_ GE104.out) | exact HB.out)⟩⟩
    · rw [if_neg c6] at H
      have c6b0 : (a0_0 == a1_0) = false := beq_eq_false_iff_ne.mpr c6
      have c6b1 : (a0_0 != a1_0) = true := bne_iff_ne.mpr c6
      (first | rw [c6b0] | (simp only [i64_w, i32_w]; rw [c6b0]) | skip)
      have H' := Aside0.mk H
      clear H
      have hnb18 := NB103_104.out
      have hnc18 := NB104_103.out
      have hcz19_0 : w5.cell? ⟨gb103, 0, none⟩ = some (.int .i64 a0_0) := (blk_cell BK103.out 0).trans rfl
      have hcz19_1 : w5.cell? ⟨gb103, 1, none⟩ = some (.int .i64 a0_1) := (blk_cell BK103.out 1).trans rfl
      have hcz19_2 : w5.cell? ⟨gb103, 2, none⟩ = some (.string a0_2) := (blk_cell BK103.out 2).trans rfl
      have hcz19_3 : w5.cell? ⟨gb103, 3, none⟩ = some (.slice A0_3 l0_3.length c0_3) := (blk_cell BK103.out 3).trans rfl
      have hfz19_0 := blk_frozen BK103.out 0
      have hfz19_1 := blk_frozen BK103.out 1
      have hfz19_2 := blk_frozen BK103.out 2
      have hfz19_3 := blk_frozen BK103.out 3
      have hcz20_0 : w5.cell? ⟨gb104, 0, none⟩ = some (.int .i64 a1_0) := (blk_cell BK104.out 0).trans rfl
      have hcz20_1 : w5.cell? ⟨gb104, 1, none⟩ = some (.int .i64 a1_1) := (blk_cell BK104.out 1).trans rfl
      have hcz20_2 : w5.cell? ⟨gb104, 2, none⟩ = some (.string a1_2) := (blk_cell BK104.out 2).trans rfl
      have hcz20_3 : w5.cell? ⟨gb104, 3, none⟩ = some (.slice A1_3 l1_3.length c1_3) := (blk_cell BK104.out 3).trans rfl
      have hfz20_0 := blk_frozen BK104.out 0
      have hfz20_1 := blk_frozen BK104.out 1
      have hfz20_2 := blk_frozen BK104.out 2
      have hfz20_3 := blk_frozen BK104.out 3
      go_wp2
      go_meet
      case rel => exact ⟨_, (true), (by first | rfl | (simp; done) | (simp [*]; done)), H', ⟨by first | omega | exact Nat.le_refl _⟩, ⟨by (with_reducible repeat (first | refine blk_drewN ?_ _ | refine blk_drew ?_ | refine blk_alloc ?_ _)); exact BK103.out⟩, ⟨by (with_reducible repeat (first | refine blk_drewN ?_ _ | refine blk_drew ?_ | refine blk_alloc ?_ _)); exact BK104.out⟩, ⟨by repeat (first | (with_reducible first | exact HB.out | apply below_alloc | apply pw_below_drewN | apply below_drew1 | refine below_set ?_ GE103.out | refine below_set ?_ GE104.out) | exact HB.out)⟩⟩
  case rest =>
    clear HC3
    try clear c1
    try clear p2
    try clear c4
    try clear c6
    try clear c6b0
    try clear c6b1
    try clear c7
    try clear c7b0
    try clear c7b1
    try clear c8
    try clear c8b0
    try clear c8b1
    try clear c9
    try clear c12
    try clear c15
    try clear c18
    try clear hcz10_0
    try clear hcz10_1
    try clear hcz10_2
    try clear hcz10_3
    try clear hcz11_0
    try clear hcz11_1
    try clear hcz11_2
    try clear hcz11_3
    try clear hcz13_0
    try clear hcz13_1
    try clear hcz13_2
    try clear hcz13_3
    try clear hcz14_0
    try clear hcz14_1
    try clear hcz14_2
    try clear hcz14_3
    try clear hcz16_0
    try clear hcz16_1
    try clear hcz16_2
    try clear hcz16_3
    try clear hcz17_0
    try clear hcz17_1
    try clear hcz17_2
    try clear hcz17_3
    try clear hcz19_0
    try clear hcz19_1
    try clear hcz19_2
    try clear hcz19_3
    try clear hcz20_0
    try clear hcz20_1
    try clear hcz20_2
    try clear hcz20_3
    try clear hfz10_0
    try clear hfz10_1
    try clear hfz10_2
    try clear hfz10_3
    try clear hfz11_0
    try clear hfz11_1
    try clear hfz11_2
    try clear hfz11_3
    try clear hfz13_0
    try clear hfz13_1
    try clear hfz13_2
    try clear hfz13_3
    try clear hfz14_0
    try clear hfz14_1
    try clear hfz14_2
    try clear hfz14_3
    try clear hfz16_0
    try clear hfz16_1
    try clear hfz16_2
    try clear hfz16_3
    try clear hfz17_0
    try clear hfz17_1
    try clear hfz17_2
    try clear hfz17_3
    try clear hfz19_0
    try clear hfz19_1
    try clear hfz19_2
    try clear hfz19_3
    try clear hfz20_0
    try clear hfz20_1
    try clear hfz20_2
    try clear hfz20_3
    obtain ⟨kq, x33_2, rfl, HA, HJ2, BK103, BK104, HB⟩ := hcut
    cases kq with
    | zero => exact absurd HA.out (by simp [kindlingref05_SameType.j0])
    | succ kj2 =>
      have H := HA.out
      clear HA
      simp only [kindlingref05_SameType.j0] at H
      by_cases c21 : x33_2 = true
      · subst c21
        have H1 : (some false) = some r := by rw [if_pos rfl] at H; exact H
        clear H
        have H := H1
        clear H1
        obtain rfl := Option.some.inj H
        go_wp2
        go_ret
        exact ⟨by first | rfl | (simp [errW_none, errW_some] <;> rfl) | (simp [*, errW_none, errW_some] <;> rfl), by repeat (first | (with_reducible first | exact HB.out | apply below_alloc | apply pw_below_drewN | apply below_drew1 | refine below_set ?_ GE103.out | refine below_set ?_ GE104.out) | exact HB.out)⟩
      · replace c21 := Bool.eq_false_iff.mpr c21
        subst c21
        have H1 : (kindlingref05_SameType.l0 kj2 0 a0_0 a0_1 a0_2 l0_3 a1_0 a1_1 a1_2 l1_3) = some r := by rw [if_neg (show ¬ (false = true) by decide)] at H; exact H
        clear H
        have H := H1
        clear H1
        have H' := Aside0.mk H
        clear H
        go_wp2
        go_loopg [5] kj2 (fun kq v5 w' => ∃ (x5_2 : Int), v5 = .int .i64 x5_2 ∧ Aside0 (kindlingref05_SameType.l0 kq x5_2 a0_0 a0_1 a0_2 l0_3 a1_0 a1_1 a1_2 l1_3 = some r) ∧ Aside0 (kq ≤ kj2) ∧ Aside0 (w'.heap[gb103]? = some (.cells #[.int .i64 a0_0, .int .i64 a0_1, .string a0_2, (.slice A0_3 l0_3.length c0_3)] 26 (0, 0))) ∧ Aside0 (w'.heap[gb104]? = some (.cells #[.int .i64 a1_0, .int .i64 a1_1, .string a1_2, (.slice A1_3 l1_3.length c1_3)] 26 (0, 0))) ∧ Aside0 (Below w.heap.size w w'))
        case atStart => exact ⟨(0), (by first | rfl | (simp; done) | (simp [*]; done)), H', ⟨Nat.le_refl _⟩, ⟨by (with_reducible repeat (first | refine blk_drewN ?_ _ | refine blk_drew ?_ | refine blk_alloc ?_ _)); exact BK103.out⟩, ⟨by (with_reducible repeat (first | refine blk_drewN ?_ _ | refine blk_drew ?_ | refine blk_alloc ?_ _)); exact BK104.out⟩, ⟨by repeat (first | (with_reducible first | exact HB.out | apply below_alloc | apply pw_below_drewN | apply below_drew1 | refine below_set ?_ GE103.out | refine below_set ?_ GE104.out) | exact HB.out)⟩⟩
        case round =>
          clear H'
          try clear c1
          try clear c2
          try clear p2
          try clear c4
          try clear c6
          try clear c6b0
          try clear c6b1
          try clear c7
          try clear c7b0
          try clear c7b1
          try clear c8
          try clear c8b0
          try clear c8b1
          try clear c9
          try clear c12
          try clear c15
          try clear c18
          try clear c21
          try clear hcz10_0
          try clear hcz10_1
          try clear hcz10_2
          try clear hcz10_3
          try clear hcz11_0
          try clear hcz11_1
          try clear hcz11_2
          try clear hcz11_3
          try clear hcz13_0
          try clear hcz13_1
          try clear hcz13_2
          try clear hcz13_3
          try clear hcz14_0
          try clear hcz14_1
          try clear hcz14_2
          try clear hcz14_3
          try clear hcz16_0
          try clear hcz16_1
          try clear hcz16_2
          try clear hcz16_3
          try clear hcz17_0
          try clear hcz17_1
          try clear hcz17_2
          try clear hcz17_3
          try clear hcz19_0
          try clear hcz19_1
          try clear hcz19_2
          try clear hcz19_3
          try clear hcz20_0
          try clear hcz20_1
          try clear hcz20_2
          try clear hcz20_3
          try clear hfz10_0
          try clear hfz10_1
          try clear hfz10_2
          try clear hfz10_3
          try clear hfz11_0
          try clear hfz11_1
          try clear hfz11_2
          try clear hfz11_3
          try clear hfz13_0
          try clear hfz13_1
          try clear hfz13_2
          try clear hfz13_3
          try clear hfz14_0
          try clear hfz14_1
          try clear hfz14_2
          try clear hfz14_3
          try clear hfz16_0
          try clear hfz16_1
          try clear hfz16_2
          try clear hfz16_3
          try clear hfz17_0
          try clear hfz17_1
          try clear hfz17_2
          try clear hfz17_3
          try clear hfz19_0
          try clear hfz19_1
          try clear hfz19_2
          try clear hfz19_3
          try clear hfz20_0
          try clear hfz20_1
          try clear hfz20_2
          try clear hfz20_3
          try clear p2
          obtain ⟨x5_2, rfl, HA, HK2, BK103, BK104, HB⟩ := hrel
          cases gk with
          | zero => exact absurd HA.out (by simp [kindlingref05_SameType.l0])
          | succ k2 =>
            have H := HA.out
            clear HA
            simp only [kindlingref05_SameType.l0] at H
            by_cases c22 : x5_2 < (l0_3.length : Int)
            · rw [if_pos c22] at H
              have c22b0 : decide (x5_2 < (l0_3.length : Int)) = true := decide_eq_true c22
              clear c22
              by_cases c23 : 0 ≤ x5_2
              · rw [if_pos c23] at H
                have c23b0 : decide (0 ≤ x5_2) = true := decide_eq_true c23
                clear c23
                by_cases c24 : x5_2 < (l1_3.length : Int)
                · rw [if_pos c24] at H
                  have c24b0 : decide (x5_2 < (l1_3.length : Int)) = true := decide_eq_true c24
                  clear c24
                  replace H := Option.bind_eq_some_iff.mp H
                  obtain ⟨t107, A250, H⟩ := H
                  replace H : (if t107 = true then (kindlingref05_SameType.l0 k2 (wrap64 (x5_2 + 1)) a0_0 a0_1 a0_2 l0_3 a1_0 a1_1 a1_2 l1_3) else (some false)) = some r := H
                  have A25 := Aside0.mk A250
                  clear A250
                  by_cases c26 : t107 = true
                  · subst c26
                    have H1 : (kindlingref05_SameType.l0 k2 (wrap64 (x5_2 + 1)) a0_0 a0_1 a0_2 l0_3 a1_0 a1_1 a1_2 l1_3) = some r := by rw [if_pos rfl] at H; exact H
                    clear H
                    have H := H1
                    clear H1
                    have H' := Aside0.mk H
                    clear H
                    have hnb27 := NB103_104.out
                    have hnc27 := NB104_103.out
                    have hcz28_0 : wr.cell? ⟨gb103, 0, none⟩ = some (.int .i64 a0_0) := (blk_cell BK103.out 0).trans rfl
                    have hcz28_1 : wr.cell? ⟨gb103, 1, none⟩ = some (.int .i64 a0_1) := (blk_cell BK103.out 1).trans rfl
                    have hcz28_2 : wr.cell? ⟨gb103, 2, none⟩ = some (.string a0_2) := (blk_cell BK103.out 2).trans rfl
                    have hcz28_3 : wr.cell? ⟨gb103, 3, none⟩ = some (.slice A0_3 l0_3.length c0_3) := (blk_cell BK103.out 3).trans rfl
                    have hfz28_0 := blk_frozen BK103.out 0
                    have hfz28_1 := blk_frozen BK103.out 1
                    have hfz28_2 := blk_frozen BK103.out 2
                    have hfz28_3 := blk_frozen BK103.out 3
                    try go_wp2
                    have n0_ := Aside0.mk (blk_drew BK103.out)
                    have n1_ := Aside0.mk (blk_drew BK104.out)
                    have n2_ := Aside0.mk (below_drew1 HB.out)
                    clear BK103
                    clear BK104
                    clear HB
                    have BK103 := n0_
                    have BK104 := n1_
                    have HB := n2_
                    clear n0_ n1_ n2_
                    have p105 : 0 ≤ (x5_2 : Int) := of_decide_eq_true (by first | (with_reducible assumption) | assumption)
                    have q105 : x5_2 < (l0_3.length : Int) := of_decide_eq_true (by first | (with_reducible assumption) | assumption)
                    obtain ⟨ad105, A105_3, c105_3, e105, hx105_0, hx105_1, hx105_2, hx105_3, hl105_3, hi105_3⟩ := at_T26 HR0_3.out x5_2 p105 q105
                    have hw105_3 := hx105_3
                    have hw105_2 := hx105_2
                    have hw105_1 := hx105_1
                    have hw105_0 := hx105_0
                    cases e105
                    replace hx105_0 := (HB.out.cell (World.block_lt_of_cell? w _ hx105_0)).trans hx105_0
                    replace hx105_1 := (HB.out.cell (World.block_lt_of_cell? w _ hx105_1)).trans hx105_1
                    replace hx105_2 := (HB.out.cell (World.block_lt_of_cell? w _ hx105_2)).trans hx105_2
                    replace hx105_3 := (HB.out.cell (World.block_lt_of_cell? w _ hx105_3)).trans hx105_3
                    have HR105_3 := Aside0.mk hi105_3
                    have HC105_3 := Aside0.mk hl105_3
                    clear hi105_3 hl105_3
                    replace p105 := eq_true p105
                    replace q105 := eq_true q105
                    have p106 : 0 ≤ (x5_2 : Int) := of_decide_eq_true (by first | (with_reducible assumption) | assumption)
                    have q106 : x5_2 < (l1_3.length : Int) := of_decide_eq_true (by first | (with_reducible assumption) | assumption)
                    obtain ⟨ad106, A106_3, c106_3, e106, hx106_0, hx106_1, hx106_2, hx106_3, hl106_3, hi106_3⟩ := at_T26 HR1_3.out x5_2 p106 q106
                    have hw106_3 := hx106_3
                    have hw106_2 := hx106_2
                    have hw106_1 := hx106_1
                    have hw106_0 := hx106_0
                    cases e106
                    replace hx106_0 := (HB.out.cell (World.block_lt_of_cell? w _ hx106_0)).trans hx106_0
                    replace hx106_1 := (HB.out.cell (World.block_lt_of_cell? w _ hx106_1)).trans hx106_1
                    replace hx106_2 := (HB.out.cell (World.block_lt_of_cell? w _ hx106_2)).trans hx106_2
                    replace hx106_3 := (HB.out.cell (World.block_lt_of_cell? w _ hx106_3)).trans hx106_3
                    have HR106_3 := Aside0.mk hi106_3
                    have HC106_3 := Aside0.mk hl106_3
                    clear hi106_3 hl106_3
                    replace p106 := eq_true p106
                    replace q106 := eq_true q106
                    refine start_ (n := 12) (S := fun w' => w'.cell? ⟨gb103, 0, none⟩ = some (.int .i64 a0_0) ∧ w'.cell? ⟨gb103, 1, none⟩ = some (.int .i64 a0_1) ∧ w'.cell? ⟨gb103, 2, none⟩ = some (.string a0_2) ∧ w'.cell? ⟨gb103, 3, none⟩ = some (.slice (some ad105) l0_3.length c0_3) ∧ w'.cell? ⟨gb104, 0, none⟩ = some (.int .i64 a1_0) ∧ w'.cell? ⟨gb104, 1, none⟩ = some (.int .i64 a1_1) ∧ w'.cell? ⟨gb104, 2, none⟩ = some (.string a1_2) ∧ w'.cell? ⟨gb104, 3, none⟩ = some (.slice (some ad106) l1_3.length c1_3) ∧ w'.cell? (ad105.add ((x5_2).toNat * 4)) = some (.int .i64 ((rd_T26 l0_3 x5_2).f0)) ∧ w'.cell? ⟨(ad105.add ((x5_2).toNat * 4)).block, (ad105.add ((x5_2).toNat * 4)).off + 1, none⟩ = some (.int .i64 ((rd_T26 l0_3 x5_2).f1)) ∧ w'.cell? ⟨(ad105.add ((x5_2).toNat * 4)).block, (ad105.add ((x5_2).toNat * 4)).off + 2, none⟩ = some (.string ((rd_T26 l0_3 x5_2).f2)) ∧ w'.cell? ⟨(ad105.add ((x5_2).toNat * 4)).block, (ad105.add ((x5_2).toNat * 4)).off + 3, none⟩ = some (.slice A105_3 ((rd_T26 l0_3 x5_2).f3).length c105_3) ∧ w'.cell? (ad106.add ((x5_2).toNat * 4)) = some (.int .i64 ((rd_T26 l1_3 x5_2).f0)) ∧ w'.cell? ⟨(ad106.add ((x5_2).toNat * 4)).block, (ad106.add ((x5_2).toNat * 4)).off + 1, none⟩ = some (.int .i64 ((rd_T26 l1_3 x5_2).f1)) ∧ w'.cell? ⟨(ad106.add ((x5_2).toNat * 4)).block, (ad106.add ((x5_2).toNat * 4)).off + 2, none⟩ = some (.string ((rd_T26 l1_3 x5_2).f2)) ∧ w'.cell? ⟨(ad106.add ((x5_2).toNat * 4)).block, (ad106.add ((x5_2).toNat * 4)).off + 3, none⟩ = some (.slice A106_3 ((rd_T26 l1_3 x5_2).f3).length c106_3)) (ds := []) #[false, false, false, false, false, false, false, false, false, false, false, false] (by kernel_rfl) rfl rfl ⟨(blk_cell BK103.out 0).trans rfl, (blk_cell BK103.out 1).trans rfl, (blk_cell BK103.out 2).trans rfl, (blk_cell BK103.out 3).trans rfl, (blk_cell BK104.out 0).trans rfl, (blk_cell BK104.out 1).trans rfl, (blk_cell BK104.out 2).trans rfl, (blk_cell BK104.out 3).trans rfl, ((HB.out.cell (World.block_lt_of_cell? w _ hw105_0)).trans hw105_0), ((HB.out.cell (World.block_lt_of_cell? w _ hw105_1)).trans hw105_1), ((HB.out.cell (World.block_lt_of_cell? w _ hw105_2)).trans hw105_2), ((HB.out.cell (World.block_lt_of_cell? w _ hw105_3)).trans hw105_3), ((HB.out.cell (World.block_lt_of_cell? w _ hw106_0)).trans hw106_0), ((HB.out.cell (World.block_lt_of_cell? w _ hw106_1)).trans hw106_1), ((HB.out.cell (World.block_lt_of_cell? w _ hw106_2)).trans hw106_2), ((HB.out.cell (World.block_lt_of_cell? w _ hw106_3)).trans hw106_3)⟩ (fun hHeld => ?_); refine with_tabW kindlingref05_SameType.tab6 kindlingref05_SameType.bits6 (fun HT_ HW_ => ?_)
                    generalize wr.drew = w29 at BK103 BK104 HB HR105_3 HR106_3 hx105_0 hx105_1 hx105_2 hx105_3 hx106_0 hx106_1 hx106_2 hx106_3 hHeld ⊢
                    refine pure_ (i := 0) (N := some 41) (v := ?_) (a' := ?_) #[true, false, false, false, false, false, false, false, false, false, false, false] rfl rfl (any_of HT_.out (by kernel_rfl)) (fun _ _ _ h => h) (Or.inl ⟨by rfl, ?_⟩) ?_ ?_
                    rotate_left
                    · intro w'
                      go_simp
                      with_reducible rfl
                    rotate_left
                    · simp only [Act.put, List.setIfInBounds_toArray, List.set_cons_zero, List.set_cons_succ, i64_w, i32_w]
                      rfl
                    refine pure_ (i := 2) (N := some 43) (v := ?_) (a' := ?_) #[true, false, true, false, false, false, false, false, false, false, false, false] rfl rfl (any_of HT_.out (by kernel_rfl)) (fun _ _ _ h => h) (Or.inl ⟨by rfl, ?_⟩) ?_ ?_
                    rotate_left
                    · intro w'
                      go_simp
                      with_reducible rfl
                    rotate_left
                    · simp only [Act.put, List.setIfInBounds_toArray, List.set_cons_zero, List.set_cons_succ, i64_w, i32_w]
                      rfl
                    refine pure_ (i := 5) (N := some 46) (v := ?_) (a' := ?_) #[true, false, true, false, false, true, false, false, false, false, false, false] rfl rfl (any_of HT_.out (by kernel_rfl)) (fun _ _ _ h => h) (Or.inl ⟨by rfl, ?_⟩) ?_ ?_
                    rotate_left
                    · intro w'
                      go_simp
                      with_reducible rfl
                    rotate_left
                    · simp only [Act.put, List.setIfInBounds_toArray, List.set_cons_zero, List.set_cons_succ, i64_w, i32_w]
                      rfl
                    refine pure_ (i := 7) (N := some 48) (v := ?_) (a' := ?_) #[true, false, true, false, false, true, false, true, false, false, false, false] rfl rfl (any_of HT_.out (by kernel_rfl)) (fun _ _ _ h => h) (Or.inl ⟨by rfl, ?_⟩) ?_ ?_
                    rotate_left
                    · intro w'
                      go_simp
                      with_reducible rfl
                    rotate_left
                    · simp only [Act.put, List.setIfInBounds_toArray, List.set_cons_zero, List.set_cons_succ, i64_w, i32_w]
                      rfl
                    refine take_ (i := 1) (N := some 42) (v := ?_) (a' := ?_) #[true, true, true, false, false, true, false, true, false, false, false, false] rfl rfl (take_ofW HT_.out HW_.out (by kernel_rfl)) (fun _ _ _ h => h) (Or.inl ⟨by rfl, ?_⟩) hHeld ?_ ?_
                    rotate_left
                    · rintro w' ⟨s0, s1, s2, s3, s4, s5, s6, s7, s8, s9, s10, s11, s12, s13, s14, s15⟩
                      go_simp
                      with_reducible rfl
                    rotate_left
                    · simp only [Act.put, List.setIfInBounds_toArray, List.set_cons_zero, List.set_cons_succ, i64_w, i32_w]
                      rfl
                    refine pure_ (i := 3) (N := some 44) (v := ?_) (a' := ?_) #[true, true, true, true, false, true, false, true, false, false, false, false] rfl rfl (any_of HT_.out (by kernel_rfl)) (fun _ _ _ h => h) (Or.inl ⟨by rfl, ?_⟩) ?_ ?_
                    rotate_left
                    · intro w'
                      go_simp
                      with_reducible rfl
                    rotate_left
                    · simp only [Act.put, List.setIfInBounds_toArray, List.set_cons_zero, List.set_cons_succ, i64_w, i32_w]
                      rfl
                    refine take_ (i := 4) (N := some 45) (v := ?_) (a' := ?_) #[true, true, true, true, true, true, false, true, false, false, false, false] rfl rfl (take_ofW HT_.out HW_.out (by kernel_rfl)) (fun _ _ _ h => h) (Or.inl ⟨by rfl, ?_⟩) hHeld ?_ ?_
                    rotate_left
                    · rintro w' ⟨s0, s1, s2, s3, s4, s5, s6, s7, s8, s9, s10, s11, s12, s13, s14, s15⟩
                      go_simp
                      with_reducible rfl
                    rotate_left
                    · simp only [Act.put, List.setIfInBounds_toArray, List.set_cons_zero, List.set_cons_succ, i64_w, i32_w]
                      rfl
                    refine take_ (i := 6) (N := some 47) (v := ?_) (a' := ?_) #[true, true, true, true, true, true, true, true, false, false, false, false] rfl rfl (take_ofW HT_.out HW_.out (by kernel_rfl)) (fun _ _ _ h => h) (Or.inl ⟨by rfl, ?_⟩) hHeld ?_ ?_
                    rotate_left
                    · rintro w' ⟨s0, s1, s2, s3, s4, s5, s6, s7, s8, s9, s10, s11, s12, s13, s14, s15⟩
                      go_simp
                      with_reducible rfl
                    rotate_left
                    · simp only [Act.put, List.setIfInBounds_toArray, List.set_cons_zero, List.set_cons_succ, i64_w, i32_w]
                      rfl
                    refine pure_ (i := 8) (N := some 49) (v := ?_) (a' := ?_) #[true, true, true, true, true, true, true, true, true, false, false, false] rfl rfl (any_of HT_.out (by kernel_rfl)) (fun _ _ _ h => h) (Or.inl ⟨by rfl, ?_⟩) ?_ ?_
                    rotate_left
                    · intro w'
                      go_simp
                      with_reducible rfl
                    rotate_left
                    · simp only [Act.put, List.setIfInBounds_toArray, List.set_cons_zero, List.set_cons_succ, i64_w, i32_w]
                      rfl
                    refine take_ (i := 9) (N := some 50) (v := ?_) (a' := ?_) #[true, true, true, true, true, true, true, true, true, true, false, false] rfl rfl (take_ofW HT_.out HW_.out (by kernel_rfl)) (fun _ _ _ h => h) (Or.inl ⟨by rfl, ?_⟩) hHeld ?_ ?_
                    rotate_left
                    · rintro w' ⟨s0, s1, s2, s3, s4, s5, s6, s7, s8, s9, s10, s11, s12, s13, s14, s15⟩
                      go_simp
                      with_reducible rfl
                    rotate_left
                    · simp only [Act.put, List.setIfInBounds_toArray, List.set_cons_zero, List.set_cons_succ, i64_w, i32_w]
                      rfl
                    refine one_ (i := 10) (N := some 51) #[true, true, true, true, true, true, true, true, true, true, true, false] rfl rfl (one_of HT_.out (by kernel_rfl)) (by decide) (fun K hK => ?_)
                    refine goes_ Try.func42 (by kernel_rfl) rfl #[.agg #[.int .i64 ((rd_T26 l0_3 x5_2).f0), .int .i64 ((rd_T26 l0_3 x5_2).f1), .string ((rd_T26 l0_3 x5_2).f2), .slice A105_3 ((rd_T26 l0_3 x5_2).f3).length c105_3], .agg #[.int .i64 ((rd_T26 l1_3 x5_2).f0), .int .i64 ((rd_T26 l1_3 x5_2).f1), .string ((rd_T26 l1_3 x5_2).f2), .slice A106_3 ((rd_T26 l1_3 x5_2).f3).length c106_3]] (by rfl) rfl rfl (by (try simp only [List.map_toArray, List.map_cons, List.map_nil]); first | done | rfl | (simp only [List.length_drop, List.length_take]; rfl)) ?_
                    with_reducible refine (ih k2 (by have := HJ2.out; have := HK2.out; omega) ((rd_T26 l0_3 x5_2).f0) ((rd_T26 l0_3 x5_2).f1) ((rd_T26 l0_3 x5_2).f2) _ _ ((rd_T26 l0_3 x5_2).f3) ((rd_T26 l1_3 x5_2).f0) ((rd_T26 l1_3 x5_2).f1) ((rd_T26 l1_3 x5_2).f2) _ _ ((rd_T26 l1_3 x5_2).f3) true _ ?side1 ?side2 ?side3 ?side4 A25.out).mono ?_
                    (case side1 => repeat (first | exact (Kd.C_below HR105_3.out HB.out) | (with_reducible refine Kd.C_alloc ?_ _) | (with_reducible refine Kd.C_drewN ?_ _) | (with_reducible refine Kd.C_drew ?_)))
                    (case side2 => exact HC105_3.out)
                    (case side3 => repeat (first | exact (Kd.C_below HR106_3.out HB.out) | (with_reducible refine Kd.C_alloc ?_ _) | (with_reducible refine Kd.C_drewN ?_ _) | (with_reducible refine Kd.C_drew ?_)))
                    (case side4 => exact HC106_3.out)
                    rintro e w30 ⟨rfl, hb⟩
                    refine ⟨_, rfl, ?_⟩
                    have n0_ := Aside0.mk (blk_below (g := gb103) (o := .cells #[.int .i64 a0_0, .int .i64 a0_1, .string a0_2, .slice (some ad105) l0_3.length c0_3] 26 (0, 0)) (by (with_reducible repeat (first | refine blk_drewN ?_ _ | refine blk_drew ?_ | refine blk_alloc ?_ _)); exact BK103.out) hb)
                    have n1_ := Aside0.mk (blk_below (g := gb104) (o := .cells #[.int .i64 a1_0, .int .i64 a1_1, .string a1_2, .slice (some ad106) l1_3.length c1_3] 26 (0, 0)) (by (with_reducible repeat (first | refine blk_drewN ?_ _ | refine blk_drew ?_ | refine blk_alloc ?_ _)); exact BK104.out) hb)
                    have n2_ := Aside0.mk (below_step (by repeat (first | (with_reducible first | exact HB.out | apply below_alloc | apply pw_below_drewN | apply below_drew1 | refine below_set ?_ GE103.out | refine below_set ?_ GE104.out) | exact HB.out)) hb)
                    clear BK103
                    clear BK104
                    clear HB
                    have BK103 := n0_
                    have BK104 := n1_
                    have HB := n2_
                    clear n0_ n1_ n2_
                    (try clear hb)
                    (try clear hb2)
                    (try clear hk)
                    (try clear hi)
                    refine hK.out _ _ ⟨(blk_cell BK103.out 0).trans rfl, (blk_cell BK103.out 1).trans rfl, (blk_cell BK103.out 2).trans rfl, (blk_cell BK103.out 3).trans rfl, (blk_cell BK104.out 0).trans rfl, (blk_cell BK104.out 1).trans rfl, (blk_cell BK104.out 2).trans rfl, (blk_cell BK104.out 3).trans rfl, ((HB.out.cell (World.block_lt_of_cell? w _ hw105_0)).trans hw105_0), ((HB.out.cell (World.block_lt_of_cell? w _ hw105_1)).trans hw105_1), ((HB.out.cell (World.block_lt_of_cell? w _ hw105_2)).trans hw105_2), ((HB.out.cell (World.block_lt_of_cell? w _ hw105_3)).trans hw105_3), ((HB.out.cell (World.block_lt_of_cell? w _ hw106_0)).trans hw106_0), ((HB.out.cell (World.block_lt_of_cell? w _ hw106_1)).trans hw106_1), ((HB.out.cell (World.block_lt_of_cell? w _ hw106_2)).trans hw106_2), ((HB.out.cell (World.block_lt_of_cell? w _ hw106_3)).trans hw106_3)⟩ (fun hHeld => ?_)
                    clear hK K
                    refine norm_ (a' := ?_) ?_ ?_
                    rotate_left
                    · show Act.put _ (some 51) _ = _
                      simp only [Act.put, List.setIfInBounds_toArray, List.set_cons_zero, List.set_cons_succ, i64_w, i32_w]
                      rfl
                    refine pure_ (i := 11) (N := some 52) (v := ?_) (a' := ?_) #[true, true, true, true, true, true, true, true, true, true, true, true] rfl rfl (any_of HT_.out (by kernel_rfl)) (fun _ _ _ h => h) (Or.inl ⟨by rfl, ?_⟩) ?_ ?_
                    rotate_left
                    · intro w'
                      go_simp
                      with_reducible rfl
                    rotate_left
                    · simp only [Act.put, List.setIfInBounds_toArray, List.set_cons_zero, List.set_cons_succ, i64_w, i32_w]
                      rfl
                    refine done_ (done_of HT_.out (by kernel_rfl)) ?_
                    try go_wp2
                    go_roundg k2
                    case measure => have := HJ2.out; have := HK2.out; omega
                    case rel => exact ⟨(wrap64 (x5_2 + 1)), (by first | rfl | (simp; done) | (simp [*]; done)), H', ⟨by have := HJ2.out; have := HK2.out; omega⟩, ⟨by (with_reducible repeat (first | refine blk_drewN ?_ _ | refine blk_drew ?_ | refine blk_alloc ?_ _)); exact BK103.out⟩, ⟨by (with_reducible repeat (first | refine blk_drewN ?_ _ | refine blk_drew ?_ | refine blk_alloc ?_ _)); exact BK104.out⟩, ⟨by repeat (first | (with_reducible first | exact HB.out | apply below_alloc | apply pw_below_drewN | apply below_drew1 | refine below_set ?_ GE103.out | refine below_set ?_ GE104.out) | exact HB.out)⟩⟩
                  · replace c26 := Bool.eq_false_iff.mpr c26
                    subst c26
                    have H1 : (some false) = some r := by rw [if_neg (show ¬ (false = true) by decide)] at H; exact H
                    clear H
                    have H := H1
                    clear H1
                    obtain rfl := Option.some.inj H
                    have hnb31 := NB103_104.out
                    have hnc31 := NB104_103.out
                    have hcz32_0 : wr.cell? ⟨gb103, 0, none⟩ = some (.int .i64 a0_0) := (blk_cell BK103.out 0).trans rfl
                    have hcz32_1 : wr.cell? ⟨gb103, 1, none⟩ = some (.int .i64 a0_1) := (blk_cell BK103.out 1).trans rfl
                    have hcz32_2 : wr.cell? ⟨gb103, 2, none⟩ = some (.string a0_2) := (blk_cell BK103.out 2).trans rfl
                    have hcz32_3 : wr.cell? ⟨gb103, 3, none⟩ = some (.slice A0_3 l0_3.length c0_3) := (blk_cell BK103.out 3).trans rfl
                    have hfz32_0 := blk_frozen BK103.out 0
                    have hfz32_1 := blk_frozen BK103.out 1
                    have hfz32_2 := blk_frozen BK103.out 2
                    have hfz32_3 := blk_frozen BK103.out 3
                    try go_wp2
                    have n0_ := Aside0.mk (blk_drew BK103.out)
                    have n1_ := Aside0.mk (blk_drew BK104.out)
                    have n2_ := Aside0.mk (below_drew1 HB.out)
                    clear BK103
                    clear BK104
                    clear HB
                    have BK103 := n0_
                    have BK104 := n1_
                    have HB := n2_
                    clear n0_ n1_ n2_
                    have p105 : 0 ≤ (x5_2 : Int) := of_decide_eq_true (by first | (with_reducible assumption) | assumption)
                    have q105 : x5_2 < (l0_3.length : Int) := of_decide_eq_true (by first | (with_reducible assumption) | assumption)
                    obtain ⟨ad105, A105_3, c105_3, e105, hx105_0, hx105_1, hx105_2, hx105_3, hl105_3, hi105_3⟩ := at_T26 HR0_3.out x5_2 p105 q105
                    have hw105_3 := hx105_3
                    have hw105_2 := hx105_2
                    have hw105_1 := hx105_1
                    have hw105_0 := hx105_0
                    cases e105
                    replace hx105_0 := (HB.out.cell (World.block_lt_of_cell? w _ hx105_0)).trans hx105_0
                    replace hx105_1 := (HB.out.cell (World.block_lt_of_cell? w _ hx105_1)).trans hx105_1
                    replace hx105_2 := (HB.out.cell (World.block_lt_of_cell? w _ hx105_2)).trans hx105_2
                    replace hx105_3 := (HB.out.cell (World.block_lt_of_cell? w _ hx105_3)).trans hx105_3
                    have HR105_3 := Aside0.mk hi105_3
                    have HC105_3 := Aside0.mk hl105_3
                    clear hi105_3 hl105_3
                    replace p105 := eq_true p105
                    replace q105 := eq_true q105
                    have p106 : 0 ≤ (x5_2 : Int) := of_decide_eq_true (by first | (with_reducible assumption) | assumption)
                    have q106 : x5_2 < (l1_3.length : Int) := of_decide_eq_true (by first | (with_reducible assumption) | assumption)
                    obtain ⟨ad106, A106_3, c106_3, e106, hx106_0, hx106_1, hx106_2, hx106_3, hl106_3, hi106_3⟩ := at_T26 HR1_3.out x5_2 p106 q106
                    have hw106_3 := hx106_3
                    have hw106_2 := hx106_2
                    have hw106_1 := hx106_1
                    have hw106_0 := hx106_0
                    cases e106
                    replace hx106_0 := (HB.out.cell (World.block_lt_of_cell? w _ hx106_0)).trans hx106_0
                    replace hx106_1 := (HB.out.cell (World.block_lt_of_cell? w _ hx106_1)).trans hx106_1
                    replace hx106_2 := (HB.out.cell (World.block_lt_of_cell? w _ hx106_2)).trans hx106_2
                    replace hx106_3 := (HB.out.cell (World.block_lt_of_cell? w _ hx106_3)).trans hx106_3
                    have HR106_3 := Aside0.mk hi106_3
                    have HC106_3 := Aside0.mk hl106_3
                    clear hi106_3 hl106_3
                    replace p106 := eq_true p106
                    replace q106 := eq_true q106
                    refine start_ (n := 12) (S := fun w' => w'.cell? ⟨gb103, 0, none⟩ = some (.int .i64 a0_0) ∧ w'.cell? ⟨gb103, 1, none⟩ = some (.int .i64 a0_1) ∧ w'.cell? ⟨gb103, 2, none⟩ = some (.string a0_2) ∧ w'.cell? ⟨gb103, 3, none⟩ = some (.slice (some ad105) l0_3.length c0_3) ∧ w'.cell? ⟨gb104, 0, none⟩ = some (.int .i64 a1_0) ∧ w'.cell? ⟨gb104, 1, none⟩ = some (.int .i64 a1_1) ∧ w'.cell? ⟨gb104, 2, none⟩ = some (.string a1_2) ∧ w'.cell? ⟨gb104, 3, none⟩ = some (.slice (some ad106) l1_3.length c1_3) ∧ w'.cell? (ad105.add ((x5_2).toNat * 4)) = some (.int .i64 ((rd_T26 l0_3 x5_2).f0)) ∧ w'.cell? ⟨(ad105.add ((x5_2).toNat * 4)).block, (ad105.add ((x5_2).toNat * 4)).off + 1, none⟩ = some (.int .i64 ((rd_T26 l0_3 x5_2).f1)) ∧ w'.cell? ⟨(ad105.add ((x5_2).toNat * 4)).block, (ad105.add ((x5_2).toNat * 4)).off + 2, none⟩ = some (.string ((rd_T26 l0_3 x5_2).f2)) ∧ w'.cell? ⟨(ad105.add ((x5_2).toNat * 4)).block, (ad105.add ((x5_2).toNat * 4)).off + 3, none⟩ = some (.slice A105_3 ((rd_T26 l0_3 x5_2).f3).length c105_3) ∧ w'.cell? (ad106.add ((x5_2).toNat * 4)) = some (.int .i64 ((rd_T26 l1_3 x5_2).f0)) ∧ w'.cell? ⟨(ad106.add ((x5_2).toNat * 4)).block, (ad106.add ((x5_2).toNat * 4)).off + 1, none⟩ = some (.int .i64 ((rd_T26 l1_3 x5_2).f1)) ∧ w'.cell? ⟨(ad106.add ((x5_2).toNat * 4)).block, (ad106.add ((x5_2).toNat * 4)).off + 2, none⟩ = some (.string ((rd_T26 l1_3 x5_2).f2)) ∧ w'.cell? ⟨(ad106.add ((x5_2).toNat * 4)).block, (ad106.add ((x5_2).toNat * 4)).off + 3, none⟩ = some (.slice A106_3 ((rd_T26 l1_3 x5_2).f3).length c106_3)) (ds := []) #[false, false, false, false, false, false, false, false, false, false, false, false] (by kernel_rfl) rfl rfl ⟨(blk_cell BK103.out 0).trans rfl, (blk_cell BK103.out 1).trans rfl, (blk_cell BK103.out 2).trans rfl, (blk_cell BK103.out 3).trans rfl, (blk_cell BK104.out 0).trans rfl, (blk_cell BK104.out 1).trans rfl, (blk_cell BK104.out 2).trans rfl, (blk_cell BK104.out 3).trans rfl, ((HB.out.cell (World.block_lt_of_cell? w _ hw105_0)).trans hw105_0), ((HB.out.cell (World.block_lt_of_cell? w _ hw105_1)).trans hw105_1), ((HB.out.cell (World.block_lt_of_cell? w _ hw105_2)).trans hw105_2), ((HB.out.cell (World.block_lt_of_cell? w _ hw105_3)).trans hw105_3), ((HB.out.cell (World.block_lt_of_cell? w _ hw106_0)).trans hw106_0), ((HB.out.cell (World.block_lt_of_cell? w _ hw106_1)).trans hw106_1), ((HB.out.cell (World.block_lt_of_cell? w _ hw106_2)).trans hw106_2), ((HB.out.cell (World.block_lt_of_cell? w _ hw106_3)).trans hw106_3)⟩ (fun hHeld => ?_); refine with_tabW kindlingref05_SameType.tab6 kindlingref05_SameType.bits6 (fun HT_ HW_ => ?_)
                    generalize wr.drew = w33 at BK103 BK104 HB HR105_3 HR106_3 hx105_0 hx105_1 hx105_2 hx105_3 hx106_0 hx106_1 hx106_2 hx106_3 hHeld ⊢
                    refine pure_ (i := 0) (N := some 41) (v := ?_) (a' := ?_) #[true, false, false, false, false, false, false, false, false, false, false, false] rfl rfl (any_of HT_.out (by kernel_rfl)) (fun _ _ _ h => h) (Or.inl ⟨by rfl, ?_⟩) ?_ ?_
                    rotate_left
                    · intro w'
                      go_simp
                      with_reducible rfl
                    rotate_left
                    · simp only [Act.put, List.setIfInBounds_toArray, List.set_cons_zero, List.set_cons_succ, i64_w, i32_w]
                      rfl
                    refine pure_ (i := 2) (N := some 43) (v := ?_) (a' := ?_) #[true, false, true, false, false, false, false, false, false, false, false, false] rfl rfl (any_of HT_.out (by kernel_rfl)) (fun _ _ _ h => h) (Or.inl ⟨by rfl, ?_⟩) ?_ ?_
                    rotate_left
                    · intro w'
                      go_simp
                      with_reducible rfl
                    rotate_left
                    · simp only [Act.put, List.setIfInBounds_toArray, List.set_cons_zero, List.set_cons_succ, i64_w, i32_w]
                      rfl
                    refine pure_ (i := 5) (N := some 46) (v := ?_) (a' := ?_) #[true, false, true, false, false, true, false, false, false, false, false, false] rfl rfl (any_of HT_.out (by kernel_rfl)) (fun _ _ _ h => h) (Or.inl ⟨by rfl, ?_⟩) ?_ ?_
                    rotate_left
                    · intro w'
                      go_simp
                      with_reducible rfl
                    rotate_left
                    · simp only [Act.put, List.setIfInBounds_toArray, List.set_cons_zero, List.set_cons_succ, i64_w, i32_w]
                      rfl
                    refine pure_ (i := 7) (N := some 48) (v := ?_) (a' := ?_) #[true, false, true, false, false, true, false, true, false, false, false, false] rfl rfl (any_of HT_.out (by kernel_rfl)) (fun _ _ _ h => h) (Or.inl ⟨by rfl, ?_⟩) ?_ ?_
                    rotate_left
                    · intro w'
                      go_simp
                      with_reducible rfl
                    rotate_left
                    · simp only [Act.put, List.setIfInBounds_toArray, List.set_cons_zero, List.set_cons_succ, i64_w, i32_w]
                      rfl
                    refine take_ (i := 1) (N := some 42) (v := ?_) (a' := ?_) #[true, true, true, false, false, true, false, true, false, false, false, false] rfl rfl (take_ofW HT_.out HW_.out (by kernel_rfl)) (fun _ _ _ h => h) (Or.inl ⟨by rfl, ?_⟩) hHeld ?_ ?_
                    rotate_left
                    · rintro w' ⟨s0, s1, s2, s3, s4, s5, s6, s7, s8, s9, s10, s11, s12, s13, s14, s15⟩
                      go_simp
                      with_reducible rfl
                    rotate_left
                    · simp only [Act.put, List.setIfInBounds_toArray, List.set_cons_zero, List.set_cons_succ, i64_w, i32_w]
                      rfl
                    refine pure_ (i := 3) (N := some 44) (v := ?_) (a' := ?_) #[true, true, true, true, false, true, false, true, false, false, false, false] rfl rfl (any_of HT_.out (by kernel_rfl)) (fun _ _ _ h => h) (Or.inl ⟨by rfl, ?_⟩) ?_ ?_
                    rotate_left
                    · intro w'
                      go_simp
                      with_reducible rfl
                    rotate_left
                    · simp only [Act.put, List.setIfInBounds_toArray, List.set_cons_zero, List.set_cons_succ, i64_w, i32_w]
                      rfl
                    refine take_ (i := 4) (N := some 45) (v := ?_) (a' := ?_) #[true, true, true, true, true, true, false, true, false, false, false, false] rfl rfl (take_ofW HT_.out HW_.out (by kernel_rfl)) (fun _ _ _ h => h) (Or.inl ⟨by rfl, ?_⟩) hHeld ?_ ?_
                    rotate_left
                    · rintro w' ⟨s0, s1, s2, s3, s4, s5, s6, s7, s8, s9, s10, s11, s12, s13, s14, s15⟩
                      go_simp
                      with_reducible rfl
                    rotate_left
                    · simp only [Act.put, List.setIfInBounds_toArray, List.set_cons_zero, List.set_cons_succ, i64_w, i32_w]
                      rfl
                    refine take_ (i := 6) (N := some 47) (v := ?_) (a' := ?_) #[true, true, true, true, true, true, true, true, false, false, false, false] rfl rfl (take_ofW HT_.out HW_.out (by kernel_rfl)) (fun _ _ _ h => h) (Or.inl ⟨by rfl, ?_⟩) hHeld ?_ ?_
                    rotate_left
                    · rintro w' ⟨s0, s1, s2, s3, s4, s5, s6, s7, s8, s9, s10, s11, s12, s13, s14, s15⟩
                      go_simp
                      with_reducible rfl
                    rotate_left
                    · simp only [Act.put, List.setIfInBounds_toArray, List.set_cons_zero, List.set_cons_succ, i64_w, i32_w]
                      rfl
                    refine pure_ (i := 8) (N := some 49) (v := ?_) (a' := ?_) #[true, true, true, true, true, true, true, true, true, false, false, false] rfl rfl (any_of HT_.out (by kernel_rfl)) (fun _ _ _ h => h) (Or.inl ⟨by rfl, ?_⟩) ?_ ?_
                    rotate_left
                    · intro w'
                      go_simp
                      with_reducible rfl
                    rotate_left
                    · simp only [Act.put, List.setIfInBounds_toArray, List.set_cons_zero, List.set_cons_succ, i64_w, i32_w]
                      rfl
                    refine take_ (i := 9) (N := some 50) (v := ?_) (a' := ?_) #[true, true, true, true, true, true, true, true, true, true, false, false] rfl rfl (take_ofW HT_.out HW_.out (by kernel_rfl)) (fun _ _ _ h => h) (Or.inl ⟨by rfl, ?_⟩) hHeld ?_ ?_
                    rotate_left
                    · rintro w' ⟨s0, s1, s2, s3, s4, s5, s6, s7, s8, s9, s10, s11, s12, s13, s14, s15⟩
                      go_simp
                      with_reducible rfl
                    rotate_left
                    · simp only [Act.put, List.setIfInBounds_toArray, List.set_cons_zero, List.set_cons_succ, i64_w, i32_w]
                      rfl
                    refine one_ (i := 10) (N := some 51) #[true, true, true, true, true, true, true, true, true, true, true, false] rfl rfl (one_of HT_.out (by kernel_rfl)) (by decide) (fun K hK => ?_)
                    refine goes_ Try.func42 (by kernel_rfl) rfl #[.agg #[.int .i64 ((rd_T26 l0_3 x5_2).f0), .int .i64 ((rd_T26 l0_3 x5_2).f1), .string ((rd_T26 l0_3 x5_2).f2), .slice A105_3 ((rd_T26 l0_3 x5_2).f3).length c105_3], .agg #[.int .i64 ((rd_T26 l1_3 x5_2).f0), .int .i64 ((rd_T26 l1_3 x5_2).f1), .string ((rd_T26 l1_3 x5_2).f2), .slice A106_3 ((rd_T26 l1_3 x5_2).f3).length c106_3]] (by rfl) rfl rfl (by (try simp only [List.map_toArray, List.map_cons, List.map_nil]); first | done | rfl | (simp only [List.length_drop, List.length_take]; rfl)) ?_
                    with_reducible refine (ih k2 (by have := HJ2.out; have := HK2.out; omega) ((rd_T26 l0_3 x5_2).f0) ((rd_T26 l0_3 x5_2).f1) ((rd_T26 l0_3 x5_2).f2) _ _ ((rd_T26 l0_3 x5_2).f3) ((rd_T26 l1_3 x5_2).f0) ((rd_T26 l1_3 x5_2).f1) ((rd_T26 l1_3 x5_2).f2) _ _ ((rd_T26 l1_3 x5_2).f3) false _ ?side1 ?side2 ?side3 ?side4 A25.out).mono ?_
                    (case side1 => repeat (first | exact (Kd.C_below HR105_3.out HB.out) | (with_reducible refine Kd.C_alloc ?_ _) | (with_reducible refine Kd.C_drewN ?_ _) | (with_reducible refine Kd.C_drew ?_)))
                    (case side2 => exact HC105_3.out)
                    (case side3 => repeat (first | exact (Kd.C_below HR106_3.out HB.out) | (with_reducible refine Kd.C_alloc ?_ _) | (with_reducible refine Kd.C_drewN ?_ _) | (with_reducible refine Kd.C_drew ?_)))
                    (case side4 => exact HC106_3.out)
                    rintro e w34 ⟨rfl, hb⟩
                    refine ⟨_, rfl, ?_⟩
                    have n0_ := Aside0.mk (blk_below (g := gb103) (o := .cells #[.int .i64 a0_0, .int .i64 a0_1, .string a0_2, .slice (some ad105) l0_3.length c0_3] 26 (0, 0)) (by (with_reducible repeat (first | refine blk_drewN ?_ _ | refine blk_drew ?_ | refine blk_alloc ?_ _)); exact BK103.out) hb)
                    have n1_ := Aside0.mk (blk_below (g := gb104) (o := .cells #[.int .i64 a1_0, .int .i64 a1_1, .string a1_2, .slice (some ad106) l1_3.length c1_3] 26 (0, 0)) (by (with_reducible repeat (first | refine blk_drewN ?_ _ | refine blk_drew ?_ | refine blk_alloc ?_ _)); exact BK104.out) hb)
                    have n2_ := Aside0.mk (below_step (by repeat (first | (with_reducible first | exact HB.out | apply below_alloc | apply pw_below_drewN | apply below_drew1 | refine below_set ?_ GE103.out | refine below_set ?_ GE104.out) | exact HB.out)) hb)
                    clear BK103
                    clear BK104
                    clear HB
                    have BK103 := n0_
                    have BK104 := n1_
                    have HB := n2_
                    clear n0_ n1_ n2_
                    (try clear hb)
                    (try clear hb2)
                    (try clear hk)
                    (try clear hi)
                    refine hK.out _ _ ⟨(blk_cell BK103.out 0).trans rfl, (blk_cell BK103.out 1).trans rfl, (blk_cell BK103.out 2).trans rfl, (blk_cell BK103.out 3).trans rfl, (blk_cell BK104.out 0).trans rfl, (blk_cell BK104.out 1).trans rfl, (blk_cell BK104.out 2).trans rfl, (blk_cell BK104.out 3).trans rfl, ((HB.out.cell (World.block_lt_of_cell? w _ hw105_0)).trans hw105_0), ((HB.out.cell (World.block_lt_of_cell? w _ hw105_1)).trans hw105_1), ((HB.out.cell (World.block_lt_of_cell? w _ hw105_2)).trans hw105_2), ((HB.out.cell (World.block_lt_of_cell? w _ hw105_3)).trans hw105_3), ((HB.out.cell (World.block_lt_of_cell? w _ hw106_0)).trans hw106_0), ((HB.out.cell (World.block_lt_of_cell? w _ hw106_1)).trans hw106_1), ((HB.out.cell (World.block_lt_of_cell? w _ hw106_2)).trans hw106_2), ((HB.out.cell (World.block_lt_of_cell? w _ hw106_3)).trans hw106_3)⟩ (fun hHeld => ?_)
                    clear hK K
                    refine norm_ (a' := ?_) ?_ ?_
                    rotate_left
                    · show Act.put _ (some 51) _ = _
                      simp only [Act.put, List.setIfInBounds_toArray, List.set_cons_zero, List.set_cons_succ, i64_w, i32_w]
                      rfl
                    refine pure_ (i := 11) (N := some 52) (v := ?_) (a' := ?_) #[true, true, true, true, true, true, true, true, true, true, true, true] rfl rfl (any_of HT_.out (by kernel_rfl)) (fun _ _ _ h => h) (Or.inl ⟨by rfl, ?_⟩) ?_ ?_
                    rotate_left
                    · intro w'
                      go_simp
                      with_reducible rfl
                    rotate_left
                    · simp only [Act.put, List.setIfInBounds_toArray, List.set_cons_zero, List.set_cons_succ, i64_w, i32_w]
                      rfl
                    refine done_ (done_of HT_.out (by kernel_rfl)) ?_
                    try go_wp2
                    go_ret
                    exact ⟨by first | rfl | (simp [errW_none, errW_some] <;> rfl) | (simp [*, errW_none, errW_some] <;> rfl), by repeat (first | (with_reducible first | exact HB.out | apply below_alloc | apply pw_below_drewN | apply below_drew1 | refine below_set ?_ GE103.out | refine below_set ?_ GE104.out) | exact HB.out)⟩
                · rw [if_neg c24] at H
                  exact absurd H (by simp)
              · rw [if_neg c23] at H
                exact absurd H (by simp)
            · rw [if_neg c22] at H
              have c22b0 : decide (x5_2 < (l0_3.length : Int)) = false := decide_eq_false c22
              clear c22
              obtain rfl := Option.some.inj H
              have hnb35 := NB103_104.out
              have hnc35 := NB104_103.out
              have hcz36_0 : wr.cell? ⟨gb103, 0, none⟩ = some (.int .i64 a0_0) := (blk_cell BK103.out 0).trans rfl
              have hcz36_1 : wr.cell? ⟨gb103, 1, none⟩ = some (.int .i64 a0_1) := (blk_cell BK103.out 1).trans rfl
              have hcz36_2 : wr.cell? ⟨gb103, 2, none⟩ = some (.string a0_2) := (blk_cell BK103.out 2).trans rfl
              have hcz36_3 : wr.cell? ⟨gb103, 3, none⟩ = some (.slice A0_3 l0_3.length c0_3) := (blk_cell BK103.out 3).trans rfl
              have hfz36_0 := blk_frozen BK103.out 0
              have hfz36_1 := blk_frozen BK103.out 1
              have hfz36_2 := blk_frozen BK103.out 2
              have hfz36_3 := blk_frozen BK103.out 3
              go_wp2
              go_ret
              exact ⟨by first | rfl | (simp [errW_none, errW_some] <;> rfl) | (simp [*, errW_none, errW_some] <;> rfl), by repeat (first | (with_reducible first | exact HB.out | apply below_alloc | apply pw_below_drewN | apply below_drew1 | refine below_set ?_ GE103.out | refine below_set ?_ GE104.out) | exact HB.out)⟩


/-! ### kindlingref05_SameMakers: function 14 -/
def kindlingref05_SameMakers.l0 : Nat → List (S28) → List (S28) → Int → Option (Bool)
  | 0, _, _, _ => none
  | k + 1, x0, x1, x5 => if x5 < (x0.length : Int) then (if 0 ≤ x5 then (if x5 < (x1.length : Int) then (if ((rd_T28 x0 x5).f0).toList = ((rd_T28 x1 x5).f0).toList then (if ((rd_T28 x0 x5).f1) = ((rd_T28 x1 x5).f1) then (if (((rd_T28 x0 x5).f2) != ((rd_T28 x1 x5).f2)) = true then (some false) else (if ((rd_T28 x0 x5).f3) = ((rd_T28 x1 x5).f3) then ((kindlingref05_SameType.f k ((rd_T28 x0 x5).f4.f0) ((rd_T28 x0 x5).f4.f1) ((rd_T28 x0 x5).f4.f2) ((rd_T28 x0 x5).f4.f3) ((rd_T28 x1 x5).f4.f0) ((rd_T28 x1 x5).f4.f1) ((rd_T28 x1 x5).f4.f2) ((rd_T28 x1 x5).f4.f3)).bind fun t112 => (if t112 = true then ((kindlingref05_SameType.f k ((rd_T28 x0 x5).f5.f0) ((rd_T28 x0 x5).f5.f1) ((rd_T28 x0 x5).f5.f2) ((rd_T28 x0 x5).f5.f3) ((rd_T28 x1 x5).f5.f0) ((rd_T28 x1 x5).f5.f1) ((rd_T28 x1 x5).f5.f2) ((rd_T28 x1 x5).f5.f3)).bind fun t113 => (if t113 = true then (kindlingref05_SameMakers.l0 k x0 x1 (wrap64 (x5 + 1))) else (some false))) else (some false))) else (some false))) else (some false)) else (some false)) else (none)) else (none)) else (some true)
def kindlingref05_SameMakers.f (k : Nat) (l0 : List (S28)) (l1 : List (S28)) : Option (Bool) := if (l0.length : Int) = (l1.length : Int) then (kindlingref05_SameMakers.l0 k l0 l1 0) else (some false)
theorem kindlingref05_SameMakers.mono_l : ∀ k, (∀ y0 y1 y2, LeO (kindlingref05_SameMakers.l0 k y0 y1 y2) (kindlingref05_SameMakers.l0 (k + 1) y0 y1 y2))
  | 0 => fun _ _ _ r h => by simp [kindlingref05_SameMakers.l0] at h
  | k + 1 => by
    have ih0 := kindlingref05_SameMakers.mono_l k
    · intro y0 y1 y2
      unfold kindlingref05_SameMakers.l0
      repeat' first
      | (with_reducible exact ih0 _ _ _)
      | (with_reducible exact kindlingref05_SameType.mono _ _ _ _ _ _ _ _ _)
      | (with_reducible exact LeO.refl _)
      | (with_reducible exact LeO.none _)
      | (with_reducible refine LeO.ite ?_ ?_)
      | (with_reducible refine LeO.bind ?_ (fun _ => ?_))
      | exact ih0 _ _ _
      | exact kindlingref05_SameType.mono _ _ _ _ _ _ _ _ _
      | exact LeO.none _
      | refine LeO.ite ?_ ?_
      | refine LeO.bind ?_ (fun _ => ?_)
theorem kindlingref05_SameMakers.mono : ∀ a0 a1 k, LeO (kindlingref05_SameMakers.f k a0 a1) (kindlingref05_SameMakers.f (k + 1) a0 a1) := by
  intro a0 a1 k
  have ih0 := kindlingref05_SameMakers.mono_l k
  unfold kindlingref05_SameMakers.f
  repeat' first
      | (with_reducible exact ih0 _ _ _)
      | (with_reducible exact kindlingref05_SameType.mono _ _ _ _ _ _ _ _ _)
      | (with_reducible exact LeO.refl _)
      | (with_reducible exact LeO.none _)
      | (with_reducible refine LeO.ite ?_ ?_)
      | (with_reducible refine LeO.bind ?_ (fun _ => ?_))
      | exact ih0 _ _ _
      | exact kindlingref05_SameType.mono _ _ _ _ _ _ _ _ _
      | exact LeO.none _
      | refine LeO.ite ?_ ?_
      | refine LeO.bind ?_ (fun _ => ?_)
set_option maxHeartbeats 8000000 in
set_option maxRecDepth 100000 in
theorem kindlingref05_SameMakers.alike (k : Nat) (A0 : Option Addr) (c0 : Nat) (l0 : List (S28)) (A1 : Option Addr) (c1 : Nat) (l1 : List (S28)) (r : Bool) (hr : r = true) (w : World) (hr0 : Kd.C k28 w A0 l0.length l0) (hc0 : l0.length ≤ c0) (hr1 : Kd.C k28 w A1 l1.length l1) (hc1 : l1.length ≤ c1) (h : kindlingref05_SameMakers.f k l0 l1 = some r) :
    Calls Try.prog 14 #[.slice A0 l0.length c0, .slice A1 l1.length c1] w fun e w' => e = .returned (.bool r) ∧ Below w.heap.size w w' := by
  have hu28 := Try.underlying28
  have hu26 := Try.underlying26
  have HR0 := Aside0.mk hr0
  have HC0 := Aside0.mk hc0
  clear hr0 hc0
  have HR1 := Aside0.mk hr1
  have HC1 := Aside0.mk hc1
  clear hr1 hc1
  have HB := Aside0.mk (Below.refl w.heap.size w)
  have H : (if (l0.length : Int) = (l1.length : Int) then (kindlingref05_SameMakers.l0 k l0 l1 0) else (some false)) = some r := h
  clear h
  by_cases c3 : (l0.length : Int) = (l1.length : Int)
  · rw [if_pos c3] at H
    have c3b0 : ((l0.length : Int) == (l1.length : Int)) = true := beq_iff_eq.mpr c3
    have c3b1 : ((l0.length : Int) != (l1.length : Int)) = false := bne_eq_false_iff_eq.mpr c3
    have c3b2 : (l0.length == l1.length) = true := by first | simpa using c3 | (simp at c3 ⊢; omega)
    clear c3
    have H' := Aside0.mk H
    clear H
    go_enter Try.func14, Try.ntmps14
    go_wp2
    go_loopg [5] k (fun kq v5 w' => ∃ (x5_1 : Int), v5 = .int .i64 x5_1 ∧ Aside0 (kindlingref05_SameMakers.l0 kq l0 l1 x5_1 = some r) ∧ Aside0 (kq ≤ k) ∧ Aside0 (Below w.heap.size w w'))
    case atStart => exact ⟨(0), (by first | rfl | (simp; done) | (simp [*]; done)), H', ⟨Nat.le_refl _⟩, ⟨by repeat (first | (with_reducible first | exact HB.out | apply below_alloc | apply pw_below_drewN | apply below_drew1) | exact HB.out)⟩⟩
    case round =>
      clear H'
      try clear c1
      try clear p2
      try clear c3
      try clear c3b0
      try clear c3b1
      try clear c3b2
      obtain ⟨x5_1, rfl, HA, HK1, HB⟩ := hrel
      cases gk with
      | zero => exact absurd HA.out (by simp [kindlingref05_SameMakers.l0])
      | succ k1 =>
        have H := HA.out
        clear HA
        simp only [kindlingref05_SameMakers.l0] at H
        by_cases c4 : x5_1 < (l0.length : Int)
        · rw [if_pos c4] at H
          have c4b0 : decide (x5_1 < (l0.length : Int)) = true := decide_eq_true c4
          clear c4
          by_cases c5 : 0 ≤ x5_1
          · rw [if_pos c5] at H
            have c5b0 : decide (0 ≤ x5_1) = true := decide_eq_true c5
            clear c5
            by_cases c6 : x5_1 < (l1.length : Int)
            · rw [if_pos c6] at H
              have c6b0 : decide (x5_1 < (l1.length : Int)) = true := decide_eq_true c6
              clear c6
              by_cases c7 : ((rd_T28 l0 x5_1).f0).toList = ((rd_T28 l1 x5_1).f0).toList
              · rw [if_pos c7] at H
                have c7b0 : (((rd_T28 l0 x5_1).f0).toList == ((rd_T28 l1 x5_1).f0).toList) = true := beq_iff_eq.mpr c7
                have c7b1 : (((rd_T28 l0 x5_1).f0).toList != ((rd_T28 l1 x5_1).f0).toList) = false := bne_eq_false_iff_eq.mpr c7
                clear c7
                by_cases c8 : ((rd_T28 l0 x5_1).f1) = ((rd_T28 l1 x5_1).f1)
                · rw [if_pos c8] at H
                  have c8b0 : (((rd_T28 l0 x5_1).f1) == ((rd_T28 l1 x5_1).f1)) = true := beq_iff_eq.mpr c8
                  have c8b1 : (((rd_T28 l0 x5_1).f1) != ((rd_T28 l1 x5_1).f1)) = false := bne_eq_false_iff_eq.mpr c8
                  clear c8
                  by_cases c9 : (((rd_T28 l0 x5_1).f2) != ((rd_T28 l1 x5_1).f2)) = true
                  · rw [if_pos c9] at H
                    have c9b0 : (((rd_T28 l0 x5_1).f2) != ((rd_T28 l1 x5_1).f2)) = true := c9
                    (try (have c9b1 : decide (((rd_T28 l0 x5_1).f2) = ((rd_T28 l1 x5_1).f2)) = false := by simpa using c9))
                    (try (have c9b2 : (((rd_T28 l0 x5_1).f2) == ((rd_T28 l1 x5_1).f2)) = false := by simpa using c9))
                    (try (have c9b3 : ¬ (((rd_T28 l0 x5_1).f2) = ((rd_T28 l1 x5_1).f2)) := by simpa using c9))
                    clear c9
                    exact absurd (Option.some.inj H) (by rw [hr]; decide)
                  · rw [if_neg c9] at H
                    have c9b0 : (((rd_T28 l0 x5_1).f2) != ((rd_T28 l1 x5_1).f2)) = false := by simpa using c9
                    (try (have c9b1 : decide (((rd_T28 l0 x5_1).f2) = ((rd_T28 l1 x5_1).f2)) = true := by simpa using c9))
                    (try (have c9b2 : (((rd_T28 l0 x5_1).f2) == ((rd_T28 l1 x5_1).f2)) = true := by simpa using c9))
                    clear c9
                    by_cases c16 : ((rd_T28 l0 x5_1).f3) = ((rd_T28 l1 x5_1).f3)
                    · rw [if_pos c16] at H
                      have c16b0 : (((rd_T28 l0 x5_1).f3) == ((rd_T28 l1 x5_1).f3)) = true := beq_iff_eq.mpr c16
                      have c16b1 : (((rd_T28 l0 x5_1).f3) != ((rd_T28 l1 x5_1).f3)) = false := bne_eq_false_iff_eq.mpr c16
                      clear c16
                      replace H := Option.bind_eq_some_iff.mp H
                      obtain ⟨t112, A170, H⟩ := H
                      replace H : (if t112 = true then ((kindlingref05_SameType.f k1 ((rd_T28 l0 x5_1).f5.f0) ((rd_T28 l0 x5_1).f5.f1) ((rd_T28 l0 x5_1).f5.f2) ((rd_T28 l0 x5_1).f5.f3) ((rd_T28 l1 x5_1).f5.f0) ((rd_T28 l1 x5_1).f5.f1) ((rd_T28 l1 x5_1).f5.f2) ((rd_T28 l1 x5_1).f5.f3)).bind fun t113 => (if t113 = true then (kindlingref05_SameMakers.l0 k1 l0 l1 (wrap64 (x5_1 + 1))) else (some false))) else (some false)) = some r := H
                      have A17 := Aside0.mk A170
                      clear A170
                      by_cases c18 : t112 = true
                      · subst c18
                        have H1 : ((kindlingref05_SameType.f k1 ((rd_T28 l0 x5_1).f5.f0) ((rd_T28 l0 x5_1).f5.f1) ((rd_T28 l0 x5_1).f5.f2) ((rd_T28 l0 x5_1).f5.f3) ((rd_T28 l1 x5_1).f5.f0) ((rd_T28 l1 x5_1).f5.f1) ((rd_T28 l1 x5_1).f5.f2) ((rd_T28 l1 x5_1).f5.f3)).bind fun t113 => (if t113 = true then (kindlingref05_SameMakers.l0 k1 l0 l1 (wrap64 (x5_1 + 1))) else (some false))) = some r := by rw [if_pos rfl] at H; exact H
                        clear H
                        have H := H1
                        clear H1
                        replace H := Option.bind_eq_some_iff.mp H
                        obtain ⟨t113, A190, H⟩ := H
                        replace H : (if t113 = true then (kindlingref05_SameMakers.l0 k1 l0 l1 (wrap64 (x5_1 + 1))) else (some false)) = some r := H
                        have A19 := Aside0.mk A190
                        clear A190
                        by_cases c20 : t113 = true
                        · subst c20
                          have H1 : (kindlingref05_SameMakers.l0 k1 l0 l1 (wrap64 (x5_1 + 1))) = some r := by rw [if_pos rfl] at H; exact H
                          clear H
                          have H := H1
                          clear H1
                          have H' := Aside0.mk H
                          clear H
                          have p108 : 0 ≤ (x5_1 : Int) := of_decide_eq_true (by first | (with_reducible assumption) | assumption)
                          have q108 : x5_1 < (l0.length : Int) := of_decide_eq_true (by first | (with_reducible assumption) | assumption)
                          obtain ⟨ad108, A108_7, c108_7, A108_11, c108_11, e108, hx108_0, hx108_1, hx108_2, hx108_3, hx108_4, hx108_5, hx108_6, hx108_7, hx108_8, hx108_9, hx108_10, hx108_11, hl108_7, hi108_7, hl108_11, hi108_11⟩ := at_T28 HR0.out x5_1 p108 q108
                          cases e108
                          replace hx108_0 := (HB.out.cell (World.block_lt_of_cell? w _ hx108_0)).trans hx108_0
                          replace hx108_1 := (HB.out.cell (World.block_lt_of_cell? w _ hx108_1)).trans hx108_1
                          replace hx108_2 := (HB.out.cell (World.block_lt_of_cell? w _ hx108_2)).trans hx108_2
                          replace hx108_3 := (HB.out.cell (World.block_lt_of_cell? w _ hx108_3)).trans hx108_3
                          replace hx108_4 := (HB.out.cell (World.block_lt_of_cell? w _ hx108_4)).trans hx108_4
                          replace hx108_5 := (HB.out.cell (World.block_lt_of_cell? w _ hx108_5)).trans hx108_5
                          replace hx108_6 := (HB.out.cell (World.block_lt_of_cell? w _ hx108_6)).trans hx108_6
                          replace hx108_7 := (HB.out.cell (World.block_lt_of_cell? w _ hx108_7)).trans hx108_7
                          replace hx108_8 := (HB.out.cell (World.block_lt_of_cell? w _ hx108_8)).trans hx108_8
                          replace hx108_9 := (HB.out.cell (World.block_lt_of_cell? w _ hx108_9)).trans hx108_9
                          replace hx108_10 := (HB.out.cell (World.block_lt_of_cell? w _ hx108_10)).trans hx108_10
                          replace hx108_11 := (HB.out.cell (World.block_lt_of_cell? w _ hx108_11)).trans hx108_11
                          have HR108_7 := Aside0.mk hi108_7
                          have HC108_7 := Aside0.mk hl108_7
                          clear hi108_7 hl108_7
                          have HR108_11 := Aside0.mk hi108_11
                          have HC108_11 := Aside0.mk hl108_11
                          clear hi108_11 hl108_11
                          replace p108 := eq_true p108
                          replace q108 := eq_true q108
                          go_wp2_with (first | ((with_reducible refine gate_dst (N := 6) rfl ?_); refine box_event ?hg (N := 6) ?hd (cs := #[.string (⟨#[]⟩ : ByteArray), .int .i64 0, .bool false, .int .i64 0, .int .i64 0, .int .i64 0, .string (⟨#[]⟩ : ByteArray), .slice none 0 0, .int .i64 0, .int .i64 0, .string (⟨#[]⟩ : ByteArray), .slice none 0 0]) (t := 28) ?hr ?_; (case hd => rfl); (case hg => rfl); (case hr => first | (go_simp; done) | (go_simp; rfl)); intro gb109 hg w21 hbox hb; have n0_ := Aside0.mk (below_step (by repeat (first | (with_reducible first | exact HB.out | apply below_alloc | apply pw_below_drewN | apply below_drew1) | exact HB.out)) hb); have n1_ := Aside0.mk (hbox); have n2_ := Aside0.mk ((by rw [hg]; exact (below_size (by repeat (first | (with_reducible first | exact HB.out | apply below_alloc | apply pw_below_drewN | apply below_drew1) | exact HB.out))) : w.heap.size ≤ gb109)); have n3_ := Aside0.mk ((by rw [hg]; exact (below_size (by repeat (first | (with_reducible first | exact HB.out | apply below_alloc | apply pw_below_drewN | apply below_drew1) | exact HB.out))) : w.heap.size ≤ gb109)); clear HB; have HB := n0_; have BK109 := n1_; have GW109 := n2_; have GE109 := n3_; clear n0_ n1_ n2_ n3_; clear hb hbox hg; have hcz22_0 : w21.cell? ⟨gb109, 0, none⟩ = some (.string (⟨#[]⟩ : ByteArray)) := (blk_cell BK109.out 0).trans rfl; have hcz22_1 : w21.cell? ⟨gb109, 1, none⟩ = some (.int .i64 0) := (blk_cell BK109.out 1).trans rfl; have hcz22_2 : w21.cell? ⟨gb109, 2, none⟩ = some (.bool false) := (blk_cell BK109.out 2).trans rfl; have hcz22_3 : w21.cell? ⟨gb109, 3, none⟩ = some (.int .i64 0) := (blk_cell BK109.out 3).trans rfl; have hcz22_4 : w21.cell? ⟨gb109, 4, none⟩ = some (.int .i64 0) := (blk_cell BK109.out 4).trans rfl; have hcz22_5 : w21.cell? ⟨gb109, 5, none⟩ = some (.int .i64 0) := (blk_cell BK109.out 5).trans rfl; have hcz22_6 : w21.cell? ⟨gb109, 6, none⟩ = some (.string (⟨#[]⟩ : ByteArray)) := (blk_cell BK109.out 6).trans rfl; have hcz22_7 : w21.cell? ⟨gb109, 7, none⟩ = some (.slice none 0 0) := (blk_cell BK109.out 7).trans rfl; have hcz22_8 : w21.cell? ⟨gb109, 8, none⟩ = some (.int .i64 0) := (blk_cell BK109.out 8).trans rfl; have hcz22_9 : w21.cell? ⟨gb109, 9, none⟩ = some (.int .i64 0) := (blk_cell BK109.out 9).trans rfl; have hcz22_10 : w21.cell? ⟨gb109, 10, none⟩ = some (.string (⟨#[]⟩ : ByteArray)) := (blk_cell BK109.out 10).trans rfl; have hcz22_11 : w21.cell? ⟨gb109, 11, none⟩ = some (.slice none 0 0) := (blk_cell BK109.out 11).trans rfl; have hfz22_0 := blk_frozen BK109.out 0; have hfz22_1 := blk_frozen BK109.out 1; have hfz22_2 := blk_frozen BK109.out 2; have hfz22_3 := blk_frozen BK109.out 3; have hfz22_4 := blk_frozen BK109.out 4; have hfz22_5 := blk_frozen BK109.out 5; have hfz22_6 := blk_frozen BK109.out 6; have hfz22_7 := blk_frozen BK109.out 7; have hfz22_8 := blk_frozen BK109.out 8; have hfz22_9 := blk_frozen BK109.out 9; have hfz22_10 := blk_frozen BK109.out 10; have hfz22_11 := blk_frozen BK109.out 11; have p110 : 0 ≤ (x5_1 : Int) := of_decide_eq_true (by first | (with_reducible assumption) | assumption); have q110 : x5_1 < (l1.length : Int) := of_decide_eq_true (by first | (with_reducible assumption) | assumption); obtain ⟨ad110, A110_7, c110_7, A110_11, c110_11, e110, hx110_0, hx110_1, hx110_2, hx110_3, hx110_4, hx110_5, hx110_6, hx110_7, hx110_8, hx110_9, hx110_10, hx110_11, hl110_7, hi110_7, hl110_11, hi110_11⟩ := at_T28 HR1.out x5_1 p110 q110; cases e110; have hn110_0 : ad110.block ≠ gb109 := Nat.ne_of_lt (Nat.lt_of_lt_of_le (by have := World.block_lt_of_cell? _ _ hx110_0; first | rwa [add_block] at this | exact this) GW109.out); have hn110_1 : ad110.block ≠ gb109 := Nat.ne_of_lt (Nat.lt_of_lt_of_le (by have := World.block_lt_of_cell? _ _ hx110_0; first | rwa [add_block] at this | exact this) GW109.out); have hn110_2 : ad110.block ≠ gb109 := Nat.ne_of_lt (Nat.lt_of_lt_of_le (by have := World.block_lt_of_cell? _ _ hx110_0; first | rwa [add_block] at this | exact this) GW109.out); have hn110_3 : ad110.block ≠ gb109 := Nat.ne_of_lt (Nat.lt_of_lt_of_le (by have := World.block_lt_of_cell? _ _ hx110_0; first | rwa [add_block] at this | exact this) GW109.out); have hn110_4 : ad110.block ≠ gb109 := Nat.ne_of_lt (Nat.lt_of_lt_of_le (by have := World.block_lt_of_cell? _ _ hx110_0; first | rwa [add_block] at this | exact this) GW109.out); have hn110_5 : ad110.block ≠ gb109 := Nat.ne_of_lt (Nat.lt_of_lt_of_le (by have := World.block_lt_of_cell? _ _ hx110_0; first | rwa [add_block] at this | exact this) GW109.out); have hn110_6 : ad110.block ≠ gb109 := Nat.ne_of_lt (Nat.lt_of_lt_of_le (by have := World.block_lt_of_cell? _ _ hx110_0; first | rwa [add_block] at this | exact this) GW109.out); have hn110_7 : ad110.block ≠ gb109 := Nat.ne_of_lt (Nat.lt_of_lt_of_le (by have := World.block_lt_of_cell? _ _ hx110_0; first | rwa [add_block] at this | exact this) GW109.out); have hn110_8 : ad110.block ≠ gb109 := Nat.ne_of_lt (Nat.lt_of_lt_of_le (by have := World.block_lt_of_cell? _ _ hx110_0; first | rwa [add_block] at this | exact this) GW109.out); have hn110_9 : ad110.block ≠ gb109 := Nat.ne_of_lt (Nat.lt_of_lt_of_le (by have := World.block_lt_of_cell? _ _ hx110_0; first | rwa [add_block] at this | exact this) GW109.out); have hn110_10 : ad110.block ≠ gb109 := Nat.ne_of_lt (Nat.lt_of_lt_of_le (by have := World.block_lt_of_cell? _ _ hx110_0; first | rwa [add_block] at this | exact this) GW109.out); have hn110_11 : ad110.block ≠ gb109 := Nat.ne_of_lt (Nat.lt_of_lt_of_le (by have := World.block_lt_of_cell? _ _ hx110_0; first | rwa [add_block] at this | exact this) GW109.out); replace hx110_0 := (HB.out.cell (World.block_lt_of_cell? w _ hx110_0)).trans hx110_0; replace hx110_1 := (HB.out.cell (World.block_lt_of_cell? w _ hx110_1)).trans hx110_1; replace hx110_2 := (HB.out.cell (World.block_lt_of_cell? w _ hx110_2)).trans hx110_2; replace hx110_3 := (HB.out.cell (World.block_lt_of_cell? w _ hx110_3)).trans hx110_3; replace hx110_4 := (HB.out.cell (World.block_lt_of_cell? w _ hx110_4)).trans hx110_4; replace hx110_5 := (HB.out.cell (World.block_lt_of_cell? w _ hx110_5)).trans hx110_5; replace hx110_6 := (HB.out.cell (World.block_lt_of_cell? w _ hx110_6)).trans hx110_6; replace hx110_7 := (HB.out.cell (World.block_lt_of_cell? w _ hx110_7)).trans hx110_7; replace hx110_8 := (HB.out.cell (World.block_lt_of_cell? w _ hx110_8)).trans hx110_8; replace hx110_9 := (HB.out.cell (World.block_lt_of_cell? w _ hx110_9)).trans hx110_9; replace hx110_10 := (HB.out.cell (World.block_lt_of_cell? w _ hx110_10)).trans hx110_10; replace hx110_11 := (HB.out.cell (World.block_lt_of_cell? w _ hx110_11)).trans hx110_11; have HR110_7 := Aside0.mk hi110_7; have HC110_7 := Aside0.mk hl110_7; clear hi110_7 hl110_7; have HR110_11 := Aside0.mk hi110_11; have HC110_11 := Aside0.mk hl110_11; clear hi110_11 hl110_11; replace hx110_0 := (cell_far (p := ⟨gb109, 0, none⟩) (by first | (rw [add_block]; exact hn110_0) | (show (Addr.add _ _).block ≠ _; rw [add_block]; exact hn110_0) | exact hn110_0) (.string ((rd_T28 l0 x5_1).f0))).trans hx110_0; replace hx110_1 := (cell_far (p := ⟨gb109, 0, none⟩) (by first | (rw [add_block]; exact hn110_0) | (show (Addr.add _ _).block ≠ _; rw [add_block]; exact hn110_0) | exact hn110_0) (.string ((rd_T28 l0 x5_1).f0))).trans hx110_1; replace hx110_2 := (cell_far (p := ⟨gb109, 0, none⟩) (by first | (rw [add_block]; exact hn110_0) | (show (Addr.add _ _).block ≠ _; rw [add_block]; exact hn110_0) | exact hn110_0) (.string ((rd_T28 l0 x5_1).f0))).trans hx110_2; replace hx110_3 := (cell_far (p := ⟨gb109, 0, none⟩) (by first | (rw [add_block]; exact hn110_0) | (show (Addr.add _ _).block ≠ _; rw [add_block]; exact hn110_0) | exact hn110_0) (.string ((rd_T28 l0 x5_1).f0))).trans hx110_3; replace hx110_4 := (cell_far (p := ⟨gb109, 0, none⟩) (by first | (rw [add_block]; exact hn110_0) | (show (Addr.add _ _).block ≠ _; rw [add_block]; exact hn110_0) | exact hn110_0) (.string ((rd_T28 l0 x5_1).f0))).trans hx110_4; replace hx110_5 := (cell_far (p := ⟨gb109, 0, none⟩) (by first | (rw [add_block]; exact hn110_0) | (show (Addr.add _ _).block ≠ _; rw [add_block]; exact hn110_0) | exact hn110_0) (.string ((rd_T28 l0 x5_1).f0))).trans hx110_5; replace hx110_6 := (cell_far (p := ⟨gb109, 0, none⟩) (by first | (rw [add_block]; exact hn110_0) | (show (Addr.add _ _).block ≠ _; rw [add_block]; exact hn110_0) | exact hn110_0) (.string ((rd_T28 l0 x5_1).f0))).trans hx110_6; replace hx110_7 := (cell_far (p := ⟨gb109, 0, none⟩) (by first | (rw [add_block]; exact hn110_0) | (show (Addr.add _ _).block ≠ _; rw [add_block]; exact hn110_0) | exact hn110_0) (.string ((rd_T28 l0 x5_1).f0))).trans hx110_7; replace hx110_8 := (cell_far (p := ⟨gb109, 0, none⟩) (by first | (rw [add_block]; exact hn110_0) | (show (Addr.add _ _).block ≠ _; rw [add_block]; exact hn110_0) | exact hn110_0) (.string ((rd_T28 l0 x5_1).f0))).trans hx110_8; replace hx110_9 := (cell_far (p := ⟨gb109, 0, none⟩) (by first | (rw [add_block]; exact hn110_0) | (show (Addr.add _ _).block ≠ _; rw [add_block]; exact hn110_0) | exact hn110_0) (.string ((rd_T28 l0 x5_1).f0))).trans hx110_9; replace hx110_10 := (cell_far (p := ⟨gb109, 0, none⟩) (by first | (rw [add_block]; exact hn110_0) | (show (Addr.add _ _).block ≠ _; rw [add_block]; exact hn110_0) | exact hn110_0) (.string ((rd_T28 l0 x5_1).f0))).trans hx110_10; replace hx110_11 := (cell_far (p := ⟨gb109, 0, none⟩) (by first | (rw [add_block]; exact hn110_0) | (show (Addr.add _ _).block ≠ _; rw [add_block]; exact hn110_0) | exact hn110_0) (.string ((rd_T28 l0 x5_1).f0))).trans hx110_11; replace hx110_0 := (cell_far (p := ⟨gb109, 1, none⟩) (by first | (rw [add_block]; exact hn110_1) | (show (Addr.add _ _).block ≠ _; rw [add_block]; exact hn110_1) | exact hn110_1) (.int .i64 ((rd_T28 l0 x5_1).f1))).trans hx110_0; replace hx110_1 := (cell_far (p := ⟨gb109, 1, none⟩) (by first | (rw [add_block]; exact hn110_1) | (show (Addr.add _ _).block ≠ _; rw [add_block]; exact hn110_1) | exact hn110_1) (.int .i64 ((rd_T28 l0 x5_1).f1))).trans hx110_1; replace hx110_2 := (cell_far (p := ⟨gb109, 1, none⟩) (by first | (rw [add_block]; exact hn110_1) | (show (Addr.add _ _).block ≠ _; rw [add_block]; exact hn110_1) | exact hn110_1) (.int .i64 ((rd_T28 l0 x5_1).f1))).trans hx110_2; replace hx110_3 := (cell_far (p := ⟨gb109, 1, none⟩) (by first | (rw [add_block]; exact hn110_1) | (show (Addr.add _ _).block ≠ _; rw [add_block]; exact hn110_1) | exact hn110_1) (.int .i64 ((rd_T28 l0 x5_1).f1))).trans hx110_3; replace hx110_4 := (cell_far (p := ⟨gb109, 1, none⟩) (by first | (rw [add_block]; exact hn110_1) | (show (Addr.add _ _).block ≠ _; rw [add_block]; exact hn110_1) | exact hn110_1) (.int .i64 ((rd_T28 l0 x5_1).f1))).trans hx110_4; replace hx110_5 := (cell_far (p := ⟨gb109, 1, none⟩) (by first | (rw [add_block]; exact hn110_1) | (show (Addr.add _ _).block ≠ _; rw [add_block]; exact hn110_1) | exact hn110_1) (.int .i64 ((rd_T28 l0 x5_1).f1))).trans hx110_5; replace hx110_6 := (cell_far (p := ⟨gb109, 1, none⟩) (by first | (rw [add_block]; exact hn110_1) | (show (Addr.add _ _).block ≠ _; rw [add_block]; exact hn110_1) | exact hn110_1) (.int .i64 ((rd_T28 l0 x5_1).f1))).trans hx110_6; replace hx110_7 := (cell_far (p := ⟨gb109, 1, none⟩) (by first | (rw [add_block]; exact hn110_1) | (show (Addr.add _ _).block ≠ _; rw [add_block]; exact hn110_1) | exact hn110_1) (.int .i64 ((rd_T28 l0 x5_1).f1))).trans hx110_7; replace hx110_8 := (cell_far (p := ⟨gb109, 1, none⟩) (by first | (rw [add_block]; exact hn110_1) | (show (Addr.add _ _).block ≠ _; rw [add_block]; exact hn110_1) | exact hn110_1) (.int .i64 ((rd_T28 l0 x5_1).f1))).trans hx110_8; replace hx110_9 := (cell_far (p := ⟨gb109, 1, none⟩) (by first | (rw [add_block]; exact hn110_1) | (show (Addr.add _ _).block ≠ _; rw [add_block]; exact hn110_1) | exact hn110_1) (.int .i64 ((rd_T28 l0 x5_1).f1))).trans hx110_9; replace hx110_10 := (cell_far (p := ⟨gb109, 1, none⟩) (by first | (rw [add_block]; exact hn110_1) | (show (Addr.add _ _).block ≠ _; rw [add_block]; exact hn110_1) | exact hn110_1) (.int .i64 ((rd_T28 l0 x5_1).f1))).trans hx110_10; replace hx110_11 := (cell_far (p := ⟨gb109, 1, none⟩) (by first | (rw [add_block]; exact hn110_1) | (show (Addr.add _ _).block ≠ _; rw [add_block]; exact hn110_1) | exact hn110_1) (.int .i64 ((rd_T28 l0 x5_1).f1))).trans hx110_11; replace hx110_0 := (cell_far (p := ⟨gb109, 2, none⟩) (by first | (rw [add_block]; exact hn110_2) | (show (Addr.add _ _).block ≠ _; rw [add_block]; exact hn110_2) | exact hn110_2) (.bool ((rd_T28 l0 x5_1).f2))).trans hx110_0; replace hx110_1 := (cell_far (p := ⟨gb109, 2, none⟩) (by first | (rw [add_block]; exact hn110_2) | (show (Addr.add _ _).block ≠ _; rw [add_block]; exact hn110_2) | exact hn110_2) (.bool ((rd_T28 l0 x5_1).f2))).trans hx110_1; replace hx110_2 := (cell_far (p := ⟨gb109, 2, none⟩) (by first | (rw [add_block]; exact hn110_2) | (show (Addr.add _ _).block ≠ _; rw [add_block]; exact hn110_2) | exact hn110_2) (.bool ((rd_T28 l0 x5_1).f2))).trans hx110_2; replace hx110_3 := (cell_far (p := ⟨gb109, 2, none⟩) (by first | (rw [add_block]; exact hn110_2) | (show (Addr.add _ _).block ≠ _; rw [add_block]; exact hn110_2) | exact hn110_2) (.bool ((rd_T28 l0 x5_1).f2))).trans hx110_3; replace hx110_4 := (cell_far (p := ⟨gb109, 2, none⟩) (by first | (rw [add_block]; exact hn110_2) | (show (Addr.add _ _).block ≠ _; rw [add_block]; exact hn110_2) | exact hn110_2) (.bool ((rd_T28 l0 x5_1).f2))).trans hx110_4; replace hx110_5 := (cell_far (p := ⟨gb109, 2, none⟩) (by first | (rw [add_block]; exact hn110_2) | (show (Addr.add _ _).block ≠ _; rw [add_block]; exact hn110_2) | exact hn110_2) (.bool ((rd_T28 l0 x5_1).f2))).trans hx110_5; replace hx110_6 := (cell_far (p := ⟨gb109, 2, none⟩) (by first | (rw [add_block]; exact hn110_2) | (show (Addr.add _ _).block ≠ _; rw [add_block]; exact hn110_2) | exact hn110_2) (.bool ((rd_T28 l0 x5_1).f2))).trans hx110_6; replace hx110_7 := (cell_far (p := ⟨gb109, 2, none⟩) (by first | (rw [add_block]; exact hn110_2) | (show (Addr.add _ _).block ≠ _; rw [add_block]; exact hn110_2) | exact hn110_2) (.bool ((rd_T28 l0 x5_1).f2))).trans hx110_7; replace hx110_8 := (cell_far (p := ⟨gb109, 2, none⟩) (by first | (rw [add_block]; exact hn110_2) | (show (Addr.add _ _).block ≠ _; rw [add_block]; exact hn110_2) | exact hn110_2) (.bool ((rd_T28 l0 x5_1).f2))).trans hx110_8; replace hx110_9 := (cell_far (p := ⟨gb109, 2, none⟩) (by first | (rw [add_block]; exact hn110_2) | (show (Addr.add _ _).block ≠ _; rw [add_block]; exact hn110_2) | exact hn110_2) (.bool ((rd_T28 l0 x5_1).f2))).trans hx110_9; replace hx110_10 := (cell_far (p := ⟨gb109, 2, none⟩) (by first | (rw [add_block]; exact hn110_2) | (show (Addr.add _ _).block ≠ _; rw [add_block]; exact hn110_2) | exact hn110_2) (.bool ((rd_T28 l0 x5_1).f2))).trans hx110_10; replace hx110_11 := (cell_far (p := ⟨gb109, 2, none⟩) (by first | (rw [add_block]; exact hn110_2) | (show (Addr.add _ _).block ≠ _; rw [add_block]; exact hn110_2) | exact hn110_2) (.bool ((rd_T28 l0 x5_1).f2))).trans hx110_11; replace hx110_0 := (cell_far (p := ⟨gb109, 3, none⟩) (by first | (rw [add_block]; exact hn110_3) | (show (Addr.add _ _).block ≠ _; rw [add_block]; exact hn110_3) | exact hn110_3) (.int .i64 ((rd_T28 l0 x5_1).f3))).trans hx110_0; replace hx110_1 := (cell_far (p := ⟨gb109, 3, none⟩) (by first | (rw [add_block]; exact hn110_3) | (show (Addr.add _ _).block ≠ _; rw [add_block]; exact hn110_3) | exact hn110_3) (.int .i64 ((rd_T28 l0 x5_1).f3))).trans hx110_1; replace hx110_2 := (cell_far (p := ⟨gb109, 3, none⟩) (by first | (rw [add_block]; exact hn110_3) | (show (Addr.add _ _).block ≠ _; rw [add_block]; exact hn110_3) | exact hn110_3) (.int .i64 ((rd_T28 l0 x5_1).f3))).trans hx110_2; replace hx110_3 := (cell_far (p := ⟨gb109, 3, none⟩) (by first | (rw [add_block]; exact hn110_3) | (show (Addr.add _ _).block ≠ _; rw [add_block]; exact hn110_3) | exact hn110_3) (.int .i64 ((rd_T28 l0 x5_1).f3))).trans hx110_3; replace hx110_4 := (cell_far (p := ⟨gb109, 3, none⟩) (by first | (rw [add_block]; exact hn110_3) | (show (Addr.add _ _).block ≠ _; rw [add_block]; exact hn110_3) | exact hn110_3) (.int .i64 ((rd_T28 l0 x5_1).f3))).trans hx110_4; replace hx110_5 := (cell_far (p := ⟨gb109, 3, none⟩) (by first | (rw [add_block]; exact hn110_3) | (show (Addr.add _ _).block ≠ _; rw [add_block]; exact hn110_3) | exact hn110_3) (.int .i64 ((rd_T28 l0 x5_1).f3))).trans hx110_5; replace hx110_6 := (cell_far (p := ⟨gb109, 3, none⟩) (by first | (rw [add_block]; exact hn110_3) | (show (Addr.add _ _).block ≠ _; rw [add_block]; exact hn110_3) | exact hn110_3) (.int .i64 ((rd_T28 l0 x5_1).f3))).trans hx110_6; replace hx110_7 := (cell_far (p := ⟨gb109, 3, none⟩) (by first | (rw [add_block]; exact hn110_3) | (show (Addr.add _ _).block ≠ _; rw [add_block]; exact hn110_3) | exact hn110_3) (.int .i64 ((rd_T28 l0 x5_1).f3))).trans hx110_7; replace hx110_8 := (cell_far (p := ⟨gb109, 3, none⟩) (by first | (rw [add_block]; exact hn110_3) | (show (Addr.add _ _).block ≠ _; rw [add_block]; exact hn110_3) | exact hn110_3) (.int .i64 ((rd_T28 l0 x5_1).f3))).trans hx110_8; replace hx110_9 := (cell_far (p := ⟨gb109, 3, none⟩) (by first | (rw [add_block]; exact hn110_3) | (show (Addr.add _ _).block ≠ _; rw [add_block]; exact hn110_3) | exact hn110_3) (.int .i64 ((rd_T28 l0 x5_1).f3))).trans hx110_9; replace hx110_10 := (cell_far (p := ⟨gb109, 3, none⟩) (by first | (rw [add_block]; exact hn110_3) | (show (Addr.add _ _).block ≠ _; rw [add_block]; exact hn110_3) | exact hn110_3) (.int .i64 ((rd_T28 l0 x5_1).f3))).trans hx110_10; replace hx110_11 := (cell_far (p := ⟨gb109, 3, none⟩) (by first | (rw [add_block]; exact hn110_3) | (show (Addr.add _ _).block ≠ _; rw [add_block]; exact hn110_3) | exact hn110_3) (.int .i64 ((rd_T28 l0 x5_1).f3))).trans hx110_11; replace hx110_0 := (cell_far (p := ⟨gb109, 4, none⟩) (by first | (rw [add_block]; exact hn110_4) | (show (Addr.add _ _).block ≠ _; rw [add_block]; exact hn110_4) | exact hn110_4) (.int .i64 ((rd_T28 l0 x5_1).f4.f0))).trans hx110_0; replace hx110_1 := (cell_far (p := ⟨gb109, 4, none⟩) (by first | (rw [add_block]; exact hn110_4) | (show (Addr.add _ _).block ≠ _; rw [add_block]; exact hn110_4) | exact hn110_4) (.int .i64 ((rd_T28 l0 x5_1).f4.f0))).trans hx110_1; replace hx110_2 := (cell_far (p := ⟨gb109, 4, none⟩) (by first | (rw [add_block]; exact hn110_4) | (show (Addr.add _ _).block ≠ _; rw [add_block]; exact hn110_4) | exact hn110_4) (.int .i64 ((rd_T28 l0 x5_1).f4.f0))).trans hx110_2; replace hx110_3 := (cell_far (p := ⟨gb109, 4, none⟩) (by first | (rw [add_block]; exact hn110_4) | (show (Addr.add _ _).block ≠ _; rw [add_block]; exact hn110_4) | exact hn110_4) (.int .i64 ((rd_T28 l0 x5_1).f4.f0))).trans hx110_3; replace hx110_4 := (cell_far (p := ⟨gb109, 4, none⟩) (by first | (rw [add_block]; exact hn110_4) | (show (Addr.add _ _).block ≠ _; rw [add_block]; exact hn110_4) | exact hn110_4) (.int .i64 ((rd_T28 l0 x5_1).f4.f0))).trans hx110_4; replace hx110_5 := (cell_far (p := ⟨gb109, 4, none⟩) (by first | (rw [add_block]; exact hn110_4) | (show (Addr.add _ _).block ≠ _; rw [add_block]; exact hn110_4) | exact hn110_4) (.int .i64 ((rd_T28 l0 x5_1).f4.f0))).trans hx110_5; replace hx110_6 := (cell_far (p := ⟨gb109, 4, none⟩) (by first | (rw [add_block]; exact hn110_4) | (show (Addr.add _ _).block ≠ _; rw [add_block]; exact hn110_4) | exact hn110_4) (.int .i64 ((rd_T28 l0 x5_1).f4.f0))).trans hx110_6; replace hx110_7 := (cell_far (p := ⟨gb109, 4, none⟩) (by first | (rw [add_block]; exact hn110_4) | (show (Addr.add _ _).block ≠ _; rw [add_block]; exact hn110_4) | exact hn110_4) (.int .i64 ((rd_T28 l0 x5_1).f4.f0))).trans hx110_7; replace hx110_8 := (cell_far (p := ⟨gb109, 4, none⟩) (by first | (rw [add_block]; exact hn110_4) | (show (Addr.add _ _).block ≠ _; rw [add_block]; exact hn110_4) | exact hn110_4) (.int .i64 ((rd_T28 l0 x5_1).f4.f0))).trans hx110_8; replace hx110_9 := (cell_far (p := ⟨gb109, 4, none⟩) (by first | (rw [add_block]; exact hn110_4) | (show (Addr.add _ _).block ≠ _; rw [add_block]; exact hn110_4) | exact hn110_4) (.int .i64 ((rd_T28 l0 x5_1).f4.f0))).trans hx110_9; replace hx110_10 := (cell_far (p := ⟨gb109, 4, none⟩) (by first | (rw [add_block]; exact hn110_4) | (show (Addr.add _ _).block ≠ _; rw [add_block]; exact hn110_4) | exact hn110_4) (.int .i64 ((rd_T28 l0 x5_1).f4.f0))).trans hx110_10; replace hx110_11 := (cell_far (p := ⟨gb109, 4, none⟩) (by first | (rw [add_block]; exact hn110_4) | (show (Addr.add _ _).block ≠ _; rw [add_block]; exact hn110_4) | exact hn110_4) (.int .i64 ((rd_T28 l0 x5_1).f4.f0))).trans hx110_11; replace hx110_0 := (cell_far (p := ⟨gb109, 5, none⟩) (by first | (rw [add_block]; exact hn110_5) | (show (Addr.add _ _).block ≠ _; rw [add_block]; exact hn110_5) | exact hn110_5) (.int .i64 ((rd_T28 l0 x5_1).f4.f1))).trans hx110_0; replace hx110_1 := (cell_far (p := ⟨gb109, 5, none⟩) (by first | (rw [add_block]; exact hn110_5) | (show (Addr.add _ _).block ≠ _; rw [add_block]; exact hn110_5) | exact hn110_5) (.int .i64 ((rd_T28 l0 x5_1).f4.f1))).trans hx110_1; replace hx110_2 := (cell_far (p := ⟨gb109, 5, none⟩) (by first | (rw [add_block]; exact hn110_5) | (show (Addr.add _ _).block ≠ _; rw [add_block]; exact hn110_5) | exact hn110_5) (.int .i64 ((rd_T28 l0 x5_1).f4.f1))).trans hx110_2; replace hx110_3 := (cell_far (p := ⟨gb109, 5, none⟩) (by first | (rw [add_block]; exact hn110_5) | (show (Addr.add _ _).block ≠ _; rw [add_block]; exact hn110_5) | exact hn110_5) (.int .i64 ((rd_T28 l0 x5_1).f4.f1))).trans hx110_3; replace hx110_4 := (cell_far (p := ⟨gb109, 5, none⟩) (by first | (rw [add_block]; exact hn110_5) | (show (Addr.add _ _).block ≠ _; rw [add_block]; exact hn110_5) | exact hn110_5) (.int .i64 ((rd_T28 l0 x5_1).f4.f1))).trans hx110_4; replace hx110_5 := (cell_far (p := ⟨gb109, 5, none⟩) (by first | (rw [add_block]; exact hn110_5) | (show (Addr.add _ _).block ≠ _; rw [add_block]; exact hn110_5) | exact hn110_5) (.int .i64 ((rd_T28 l0 x5_1).f4.f1))).trans hx110_5; replace hx110_6 := (cell_far (p := ⟨gb109, 5, none⟩) (by first | (rw [add_block]; exact hn110_5) | (show (Addr.add _ _).block ≠ _; rw [add_block]; exact hn110_5) | exact hn110_5) (.int .i64 ((rd_T28 l0 x5_1).f4.f1))).trans hx110_6; replace hx110_7 := (cell_far (p := ⟨gb109, 5, none⟩) (by first | (rw [add_block]; exact hn110_5) | (show (Addr.add _ _).block ≠ _; rw [add_block]; exact hn110_5) | exact hn110_5) (.int .i64 ((rd_T28 l0 x5_1).f4.f1))).trans hx110_7; replace hx110_8 := (cell_far (p := ⟨gb109, 5, none⟩) (by first | (rw [add_block]; exact hn110_5) | (show (Addr.add _ _).block ≠ _; rw [add_block]; exact hn110_5) | exact hn110_5) (.int .i64 ((rd_T28 l0 x5_1).f4.f1))).trans hx110_8; replace hx110_9 := (cell_far (p := ⟨gb109, 5, none⟩) (by first | (rw [add_block]; exact hn110_5) | (show (Addr.add _ _).block ≠ _; rw [add_block]; exact hn110_5) | exact hn110_5) (.int .i64 ((rd_T28 l0 x5_1).f4.f1))).trans hx110_9; replace hx110_10 := (cell_far (p := ⟨gb109, 5, none⟩) (by first | (rw [add_block]; exact hn110_5) | (show (Addr.add _ _).block ≠ _; rw [add_block]; exact hn110_5) | exact hn110_5) (.int .i64 ((rd_T28 l0 x5_1).f4.f1))).trans hx110_10; replace hx110_11 := (cell_far (p := ⟨gb109, 5, none⟩) (by first | (rw [add_block]; exact hn110_5) | (show (Addr.add _ _).block ≠ _; rw [add_block]; exact hn110_5) | exact hn110_5) (.int .i64 ((rd_T28 l0 x5_1).f4.f1))).trans hx110_11; replace hx110_0 := (cell_far (p := ⟨gb109, 6, none⟩) (by first | (rw [add_block]; exact hn110_6) | (show (Addr.add _ _).block ≠ _; rw [add_block]; exact hn110_6) | exact hn110_6) (.string ((rd_T28 l0 x5_1).f4.f2))).trans hx110_0; replace hx110_1 := (cell_far (p := ⟨gb109, 6, none⟩) (by first | (rw [add_block]; exact hn110_6) | (show (Addr.add _ _).block ≠ _; rw [add_block]; exact hn110_6) | exact hn110_6) (.string ((rd_T28 l0 x5_1).f4.f2))).trans hx110_1; replace hx110_2 := (cell_far (p := ⟨gb109, 6, none⟩) (by first | (rw [add_block]; exact hn110_6) | (show (Addr.add _ _).block ≠ _; rw [add_block]; exact hn110_6) | exact hn110_6) (.string ((rd_T28 l0 x5_1).f4.f2))).trans hx110_2; replace hx110_3 := (cell_far (p := ⟨gb109, 6, none⟩) (by first | (rw [add_block]; exact hn110_6) | (show (Addr.add _ _).block ≠ _; rw [add_block]; exact hn110_6) | exact hn110_6) (.string ((rd_T28 l0 x5_1).f4.f2))).trans hx110_3; replace hx110_4 := (cell_far (p := ⟨gb109, 6, none⟩) (by first | (rw [add_block]; exact hn110_6) | (show (Addr.add _ _).block ≠ _; rw [add_block]; exact hn110_6) | exact hn110_6) (.string ((rd_T28 l0 x5_1).f4.f2))).trans hx110_4; replace hx110_5 := (cell_far (p := ⟨gb109, 6, none⟩) (by first | (rw [add_block]; exact hn110_6) | (show (Addr.add _ _).block ≠ _; rw [add_block]; exact hn110_6) | exact hn110_6) (.string ((rd_T28 l0 x5_1).f4.f2))).trans hx110_5; replace hx110_6 := (cell_far (p := ⟨gb109, 6, none⟩) (by first | (rw [add_block]; exact hn110_6) | (show (Addr.add _ _).block ≠ _; rw [add_block]; exact hn110_6) | exact hn110_6) (.string ((rd_T28 l0 x5_1).f4.f2))).trans hx110_6; replace hx110_7 := (cell_far (p := ⟨gb109, 6, none⟩) (by first | (rw [add_block]; exact hn110_6) | (show (Addr.add _ _).block ≠ _; rw [add_block]; exact hn110_6) | exact hn110_6) (.string ((rd_T28 l0 x5_1).f4.f2))).trans hx110_7; replace hx110_8 := (cell_far (p := ⟨gb109, 6, none⟩) (by first | (rw [add_block]; exact hn110_6) | (show (Addr.add _ _).block ≠ _; rw [add_block]; exact hn110_6) | exact hn110_6) (.string ((rd_T28 l0 x5_1).f4.f2))).trans hx110_8; replace hx110_9 := (cell_far (p := ⟨gb109, 6, none⟩) (by first | (rw [add_block]; exact hn110_6) | (show (Addr.add _ _).block ≠ _; rw [add_block]; exact hn110_6) | exact hn110_6) (.string ((rd_T28 l0 x5_1).f4.f2))).trans hx110_9; replace hx110_10 := (cell_far (p := ⟨gb109, 6, none⟩) (by first | (rw [add_block]; exact hn110_6) | (show (Addr.add _ _).block ≠ _; rw [add_block]; exact hn110_6) | exact hn110_6) (.string ((rd_T28 l0 x5_1).f4.f2))).trans hx110_10; replace hx110_11 := (cell_far (p := ⟨gb109, 6, none⟩) (by first | (rw [add_block]; exact hn110_6) | (show (Addr.add _ _).block ≠ _; rw [add_block]; exact hn110_6) | exact hn110_6) (.string ((rd_T28 l0 x5_1).f4.f2))).trans hx110_11; replace hx110_0 := (cell_far (p := ⟨gb109, 7, none⟩) (by first | (rw [add_block]; exact hn110_7) | (show (Addr.add _ _).block ≠ _; rw [add_block]; exact hn110_7) | exact hn110_7) (.slice A108_7 ((rd_T28 l0 x5_1).f4.f3).length c108_7)).trans hx110_0; replace hx110_1 := (cell_far (p := ⟨gb109, 7, none⟩) (by first | (rw [add_block]; exact hn110_7) | (show (Addr.add _ _).block ≠ _; rw [add_block]; exact hn110_7) | exact hn110_7) (.slice A108_7 ((rd_T28 l0 x5_1).f4.f3).length c108_7)).trans hx110_1; replace hx110_2 := (cell_far (p := ⟨gb109, 7, none⟩) (by first | (rw [add_block]; exact hn110_7) | (show (Addr.add _ _).block ≠ _; rw [add_block]; exact hn110_7) | exact hn110_7) (.slice A108_7 ((rd_T28 l0 x5_1).f4.f3).length c108_7)).trans hx110_2; replace hx110_3 := (cell_far (p := ⟨gb109, 7, none⟩) (by first | (rw [add_block]; exact hn110_7) | (show (Addr.add _ _).block ≠ _; rw [add_block]; exact hn110_7) | exact hn110_7) (.slice A108_7 ((rd_T28 l0 x5_1).f4.f3).length c108_7)).trans hx110_3; replace hx110_4 := (cell_far (p := ⟨gb109, 7, none⟩) (by first | (rw [add_block]; exact hn110_7) | (show (Addr.add _ _).block ≠ _; rw [add_block]; exact hn110_7) | exact hn110_7) (.slice A108_7 ((rd_T28 l0 x5_1).f4.f3).length c108_7)).trans hx110_4; replace hx110_5 := (cell_far (p := ⟨gb109, 7, none⟩) (by first | (rw [add_block]; exact hn110_7) | (show (Addr.add _ _).block ≠ _; rw [add_block]; exact hn110_7) | exact hn110_7) (.slice A108_7 ((rd_T28 l0 x5_1).f4.f3).length c108_7)).trans hx110_5; replace hx110_6 := (cell_far (p := ⟨gb109, 7, none⟩) (by first | (rw [add_block]; exact hn110_7) | (show (Addr.add _ _).block ≠ _; rw [add_block]; exact hn110_7) | exact hn110_7) (.slice A108_7 ((rd_T28 l0 x5_1).f4.f3).length c108_7)).trans hx110_6; replace hx110_7 := (cell_far (p := ⟨gb109, 7, none⟩) (by first | (rw [add_block]; exact hn110_7) | (show (Addr.add _ _).block ≠ _; rw [add_block]; exact hn110_7) | exact hn110_7) (.slice A108_7 ((rd_T28 l0 x5_1).f4.f3).length c108_7)).trans hx110_7; replace hx110_8 := (cell_far (p := ⟨gb109, 7, none⟩) (by first | (rw [add_block]; exact hn110_7) | (show (Addr.add _ _).block ≠ _; rw [add_block]; exact hn110_7) | exact hn110_7) (.slice A108_7 ((rd_T28 l0 x5_1).f4.f3).length c108_7)).trans hx110_8; replace hx110_9 := (cell_far (p := ⟨gb109, 7, none⟩) (by first | (rw [add_block]; exact hn110_7) | (show (Addr.add _ _).block ≠ _; rw [add_block]; exact hn110_7) | exact hn110_7) (.slice A108_7 ((rd_T28 l0 x5_1).f4.f3).length c108_7)).trans hx110_9; replace hx110_10 := (cell_far (p := ⟨gb109, 7, none⟩) (by first | (rw [add_block]; exact hn110_7) | (show (Addr.add _ _).block ≠ _; rw [add_block]; exact hn110_7) | exact hn110_7) (.slice A108_7 ((rd_T28 l0 x5_1).f4.f3).length c108_7)).trans hx110_10; replace hx110_11 := (cell_far (p := ⟨gb109, 7, none⟩) (by first | (rw [add_block]; exact hn110_7) | (show (Addr.add _ _).block ≠ _; rw [add_block]; exact hn110_7) | exact hn110_7) (.slice A108_7 ((rd_T28 l0 x5_1).f4.f3).length c108_7)).trans hx110_11; replace hx110_0 := (cell_far (p := ⟨gb109, 8, none⟩) (by first | (rw [add_block]; exact hn110_8) | (show (Addr.add _ _).block ≠ _; rw [add_block]; exact hn110_8) | exact hn110_8) (.int .i64 ((rd_T28 l0 x5_1).f5.f0))).trans hx110_0; replace hx110_1 := (cell_far (p := ⟨gb109, 8, none⟩) (by first | (rw [add_block]; exact hn110_8) | (show (Addr.add _ _).block ≠ _; rw [add_block]; exact hn110_8) | exact hn110_8) (.int .i64 ((rd_T28 l0 x5_1).f5.f0))).trans hx110_1; replace hx110_2 := (cell_far (p := ⟨gb109, 8, none⟩) (by first | (rw [add_block]; exact hn110_8) | (show (Addr.add _ _).block ≠ _; rw [add_block]; exact hn110_8) | exact hn110_8) (.int .i64 ((rd_T28 l0 x5_1).f5.f0))).trans hx110_2; replace hx110_3 := (cell_far (p := ⟨gb109, 8, none⟩) (by first | (rw [add_block]; exact hn110_8) | (show (Addr.add _ _).block ≠ _; rw [add_block]; exact hn110_8) | exact hn110_8) (.int .i64 ((rd_T28 l0 x5_1).f5.f0))).trans hx110_3; replace hx110_4 := (cell_far (p := ⟨gb109, 8, none⟩) (by first | (rw [add_block]; exact hn110_8) | (show (Addr.add _ _).block ≠ _; rw [add_block]; exact hn110_8) | exact hn110_8) (.int .i64 ((rd_T28 l0 x5_1).f5.f0))).trans hx110_4; replace hx110_5 := (cell_far (p := ⟨gb109, 8, none⟩) (by first | (rw [add_block]; exact hn110_8) | (show (Addr.add _ _).block ≠ _; rw [add_block]; exact hn110_8) | exact hn110_8) (.int .i64 ((rd_T28 l0 x5_1).f5.f0))).trans hx110_5; replace hx110_6 := (cell_far (p := ⟨gb109, 8, none⟩) (by first | (rw [add_block]; exact hn110_8) | (show (Addr.add _ _).block ≠ _; rw [add_block]; exact hn110_8) | exact hn110_8) (.int .i64 ((rd_T28 l0 x5_1).f5.f0))).trans hx110_6; replace hx110_7 := (cell_far (p := ⟨gb109, 8, none⟩) (by first | (rw [add_block]; exact hn110_8) | (show (Addr.add _ _).block ≠ _; rw [add_block]; exact hn110_8) | exact hn110_8) (.int .i64 ((rd_T28 l0 x5_1).f5.f0))).trans hx110_7; replace hx110_8 := (cell_far (p := ⟨gb109, 8, none⟩) (by first | (rw [add_block]; exact hn110_8) | (show (Addr.add _ _).block ≠ _; rw [add_block]; exact hn110_8) | exact hn110_8) (.int .i64 ((rd_T28 l0 x5_1).f5.f0))).trans hx110_8; replace hx110_9 := (cell_far (p := ⟨gb109, 8, none⟩) (by first | (rw [add_block]; exact hn110_8) | (show (Addr.add _ _).block ≠ _; rw [add_block]; exact hn110_8) | exact hn110_8) (.int .i64 ((rd_T28 l0 x5_1).f5.f0))).trans hx110_9; replace hx110_10 := (cell_far (p := ⟨gb109, 8, none⟩) (by first | (rw [add_block]; exact hn110_8) | (show (Addr.add _ _).block ≠ _; rw [add_block]; exact hn110_8) | exact hn110_8) (.int .i64 ((rd_T28 l0 x5_1).f5.f0))).trans hx110_10; replace hx110_11 := (cell_far (p := ⟨gb109, 8, none⟩) (by first | (rw [add_block]; exact hn110_8) | (show (Addr.add _ _).block ≠ _; rw [add_block]; exact hn110_8) | exact hn110_8) (.int .i64 ((rd_T28 l0 x5_1).f5.f0))).trans hx110_11; replace hx110_0 := (cell_far (p := ⟨gb109, 9, none⟩) (by first | (rw [add_block]; exact hn110_9) | (show (Addr.add _ _).block ≠ _; rw [add_block]; exact hn110_9) | exact hn110_9) (.int .i64 ((rd_T28 l0 x5_1).f5.f1))).trans hx110_0; replace hx110_1 := (cell_far (p := ⟨gb109, 9, none⟩) (by first | (rw [add_block]; exact hn110_9) | (show (Addr.add _ _).block ≠ _; rw [add_block]; exact hn110_9) | exact hn110_9) (.int .i64 ((rd_T28 l0 x5_1).f5.f1))).trans hx110_1; replace hx110_2 := (cell_far (p := ⟨gb109, 9, none⟩) (by first | (rw [add_block]; exact hn110_9) | (show (Addr.add _ _).block ≠ _; rw [add_block]; exact hn110_9) | exact hn110_9) (.int .i64 ((rd_T28 l0 x5_1).f5.f1))).trans hx110_2; replace hx110_3 := (cell_far (p := ⟨gb109, 9, none⟩) (by first | (rw [add_block]; exact hn110_9) | (show (Addr.add _ _).block ≠ _; rw [add_block]; exact hn110_9) | exact hn110_9) (.int .i64 ((rd_T28 l0 x5_1).f5.f1))).trans hx110_3; replace hx110_4 := (cell_far (p := ⟨gb109, 9, none⟩) (by first | (rw [add_block]; exact hn110_9) | (show (Addr.add _ _).block ≠ _; rw [add_block]; exact hn110_9) | exact hn110_9) (.int .i64 ((rd_T28 l0 x5_1).f5.f1))).trans hx110_4; replace hx110_5 := (cell_far (p := ⟨gb109, 9, none⟩) (by first | (rw [add_block]; exact hn110_9) | (show (Addr.add _ _).block ≠ _; rw [add_block]; exact hn110_9) | exact hn110_9) (.int .i64 ((rd_T28 l0 x5_1).f5.f1))).trans hx110_5; replace hx110_6 := (cell_far (p := ⟨gb109, 9, none⟩) (by first | (rw [add_block]; exact hn110_9) | (show (Addr.add _ _).block ≠ _; rw [add_block]; exact hn110_9) | exact hn110_9) (.int .i64 ((rd_T28 l0 x5_1).f5.f1))).trans hx110_6; replace hx110_7 := (cell_far (p := ⟨gb109, 9, none⟩) (by first | (rw [add_block]; exact hn110_9) | (show (Addr.add _ _).block ≠ _; rw [add_block]; exact hn110_9) | exact hn110_9) (.int .i64 ((rd_T28 l0 x5_1).f5.f1))).trans hx110_7; replace hx110_8 := (cell_far (p := ⟨gb109, 9, none⟩) (by first | (rw [add_block]; exact hn110_9) | (show (Addr.add _ _).block ≠ _; rw [add_block]; exact hn110_9) | exact hn110_9) (.int .i64 ((rd_T28 l0 x5_1).f5.f1))).trans hx110_8; replace hx110_9 := (cell_far (p := ⟨gb109, 9, none⟩) (by first | (rw [add_block]; exact hn110_9) | (show (Addr.add _ _).block ≠ _; rw [add_block]; exact hn110_9) | exact hn110_9) (.int .i64 ((rd_T28 l0 x5_1).f5.f1))).trans hx110_9; replace hx110_10 := (cell_far (p := ⟨gb109, 9, none⟩) (by first | (rw [add_block]; exact hn110_9) | (show (Addr.add _ _).block ≠ _; rw [add_block]; exact hn110_9) | exact hn110_9) (.int .i64 ((rd_T28 l0 x5_1).f5.f1))).trans hx110_10; replace hx110_11 := (cell_far (p := ⟨gb109, 9, none⟩) (by first | (rw [add_block]; exact hn110_9) | (show (Addr.add _ _).block ≠ _; rw [add_block]; exact hn110_9) | exact hn110_9) (.int .i64 ((rd_T28 l0 x5_1).f5.f1))).trans hx110_11; replace hx110_0 := (cell_far (p := ⟨gb109, 10, none⟩) (by first | (rw [add_block]; exact hn110_10) | (show (Addr.add _ _).block ≠ _; rw [add_block]; exact hn110_10) | exact hn110_10) (.string ((rd_T28 l0 x5_1).f5.f2))).trans hx110_0; replace hx110_1 := (cell_far (p := ⟨gb109, 10, none⟩) (by first | (rw [add_block]; exact hn110_10) | (show (Addr.add _ _).block ≠ _; rw [add_block]; exact hn110_10) | exact hn110_10) (.string ((rd_T28 l0 x5_1).f5.f2))).trans hx110_1; replace hx110_2 := (cell_far (p := ⟨gb109, 10, none⟩) (by first | (rw [add_block]; exact hn110_10) | (show (Addr.add _ _).block ≠ _; rw [add_block]; exact hn110_10) | exact hn110_10) (.string ((rd_T28 l0 x5_1).f5.f2))).trans hx110_2; replace hx110_3 := (cell_far (p := ⟨gb109, 10, none⟩) (by first | (rw [add_block]; exact hn110_10) | (show (Addr.add _ _).block ≠ _; rw [add_block]; exact hn110_10) | exact hn110_10) (.string ((rd_T28 l0 x5_1).f5.f2))).trans hx110_3; replace hx110_4 := (cell_far (p := ⟨gb109, 10, none⟩) (by first | (rw [add_block]; exact hn110_10) | (show (Addr.add _ _).block ≠ _; rw [add_block]; exact hn110_10) | exact hn110_10) (.string ((rd_T28 l0 x5_1).f5.f2))).trans hx110_4; replace hx110_5 := (cell_far (p := ⟨gb109, 10, none⟩) (by first | (rw [add_block]; exact hn110_10) | (show (Addr.add _ _).block ≠ _; rw [add_block]; exact hn110_10) | exact hn110_10) (.string ((rd_T28 l0 x5_1).f5.f2))).trans hx110_5; replace hx110_6 := (cell_far (p := ⟨gb109, 10, none⟩) (by first | (rw [add_block]; exact hn110_10) | (show (Addr.add _ _).block ≠ _; rw [add_block]; exact hn110_10) | exact hn110_10) (.string ((rd_T28 l0 x5_1).f5.f2))).trans hx110_6; replace hx110_7 := (cell_far (p := ⟨gb109, 10, none⟩) (by first | (rw [add_block]; exact hn110_10) | (show (Addr.add _ _).block ≠ _; rw [add_block]; exact hn110_10) | exact hn110_10) (.string ((rd_T28 l0 x5_1).f5.f2))).trans hx110_7; replace hx110_8 := (cell_far (p := ⟨gb109, 10, none⟩) (by first | (rw [add_block]; exact hn110_10) | (show (Addr.add _ _).block ≠ _; rw [add_block]; exact hn110_10) | exact hn110_10) (.string ((rd_T28 l0 x5_1).f5.f2))).trans hx110_8; replace hx110_9 := (cell_far (p := ⟨gb109, 10, none⟩) (by first | (rw [add_block]; exact hn110_10) | (show (Addr.add _ _).block ≠ _; rw [add_block]; exact hn110_10) | exact hn110_10) (.string ((rd_T28 l0 x5_1).f5.f2))).trans hx110_9; replace hx110_10 := (cell_far (p := ⟨gb109, 10, none⟩) (by first | (rw [add_block]; exact hn110_10) | (show (Addr.add _ _).block ≠ _; rw [add_block]; exact hn110_10) | exact hn110_10) (.string ((rd_T28 l0 x5_1).f5.f2))).trans hx110_10; replace hx110_11 := (cell_far (p := ⟨gb109, 10, none⟩) (by first | (rw [add_block]; exact hn110_10) | (show (Addr.add _ _).block ≠ _; rw [add_block]; exact hn110_10) | exact hn110_10) (.string ((rd_T28 l0 x5_1).f5.f2))).trans hx110_11; replace hx110_0 := (cell_far (p := ⟨gb109, 11, none⟩) (by first | (rw [add_block]; exact hn110_11) | (show (Addr.add _ _).block ≠ _; rw [add_block]; exact hn110_11) | exact hn110_11) (.slice A108_11 ((rd_T28 l0 x5_1).f5.f3).length c108_11)).trans hx110_0; replace hx110_1 := (cell_far (p := ⟨gb109, 11, none⟩) (by first | (rw [add_block]; exact hn110_11) | (show (Addr.add _ _).block ≠ _; rw [add_block]; exact hn110_11) | exact hn110_11) (.slice A108_11 ((rd_T28 l0 x5_1).f5.f3).length c108_11)).trans hx110_1; replace hx110_2 := (cell_far (p := ⟨gb109, 11, none⟩) (by first | (rw [add_block]; exact hn110_11) | (show (Addr.add _ _).block ≠ _; rw [add_block]; exact hn110_11) | exact hn110_11) (.slice A108_11 ((rd_T28 l0 x5_1).f5.f3).length c108_11)).trans hx110_2; replace hx110_3 := (cell_far (p := ⟨gb109, 11, none⟩) (by first | (rw [add_block]; exact hn110_11) | (show (Addr.add _ _).block ≠ _; rw [add_block]; exact hn110_11) | exact hn110_11) (.slice A108_11 ((rd_T28 l0 x5_1).f5.f3).length c108_11)).trans hx110_3; replace hx110_4 := (cell_far (p := ⟨gb109, 11, none⟩) (by first | (rw [add_block]; exact hn110_11) | (show (Addr.add _ _).block ≠ _; rw [add_block]; exact hn110_11) | exact hn110_11) (.slice A108_11 ((rd_T28 l0 x5_1).f5.f3).length c108_11)).trans hx110_4; replace hx110_5 := (cell_far (p := ⟨gb109, 11, none⟩) (by first | (rw [add_block]; exact hn110_11) | (show (Addr.add _ _).block ≠ _; rw [add_block]; exact hn110_11) | exact hn110_11) (.slice A108_11 ((rd_T28 l0 x5_1).f5.f3).length c108_11)).trans hx110_5; replace hx110_6 := (cell_far (p := ⟨gb109, 11, none⟩) (by first | (rw [add_block]; exact hn110_11) | (show (Addr.add _ _).block ≠ _; rw [add_block]; exact hn110_11) | exact hn110_11) (.slice A108_11 ((rd_T28 l0 x5_1).f5.f3).length c108_11)).trans hx110_6; replace hx110_7 := (cell_far (p := ⟨gb109, 11, none⟩) (by first | (rw [add_block]; exact hn110_11) | (show (Addr.add _ _).block ≠ _; rw [add_block]; exact hn110_11) | exact hn110_11) (.slice A108_11 ((rd_T28 l0 x5_1).f5.f3).length c108_11)).trans hx110_7; replace hx110_8 := (cell_far (p := ⟨gb109, 11, none⟩) (by first | (rw [add_block]; exact hn110_11) | (show (Addr.add _ _).block ≠ _; rw [add_block]; exact hn110_11) | exact hn110_11) (.slice A108_11 ((rd_T28 l0 x5_1).f5.f3).length c108_11)).trans hx110_8; replace hx110_9 := (cell_far (p := ⟨gb109, 11, none⟩) (by first | (rw [add_block]; exact hn110_11) | (show (Addr.add _ _).block ≠ _; rw [add_block]; exact hn110_11) | exact hn110_11) (.slice A108_11 ((rd_T28 l0 x5_1).f5.f3).length c108_11)).trans hx110_9; replace hx110_10 := (cell_far (p := ⟨gb109, 11, none⟩) (by first | (rw [add_block]; exact hn110_11) | (show (Addr.add _ _).block ≠ _; rw [add_block]; exact hn110_11) | exact hn110_11) (.slice A108_11 ((rd_T28 l0 x5_1).f5.f3).length c108_11)).trans hx110_10; replace hx110_11 := (cell_far (p := ⟨gb109, 11, none⟩) (by first | (rw [add_block]; exact hn110_11) | (show (Addr.add _ _).block ≠ _; rw [add_block]; exact hn110_11) | exact hn110_11) (.slice A108_11 ((rd_T28 l0 x5_1).f5.f3).length c108_11)).trans hx110_11; clear hn110_0; clear hn110_1; clear hn110_2; clear hn110_3; clear hn110_4; clear hn110_5; clear hn110_6; clear hn110_7; clear hn110_8; clear hn110_9; clear hn110_10; clear hn110_11; replace p110 := eq_true p110; replace q110 := eq_true q110) | ((with_reducible refine gate_dst (N := 7) rfl ?_); refine box_event ?hg (N := 7) ?hd (cs := #[.string (⟨#[]⟩ : ByteArray), .int .i64 0, .bool false, .int .i64 0, .int .i64 0, .int .i64 0, .string (⟨#[]⟩ : ByteArray), .slice none 0 0, .int .i64 0, .int .i64 0, .string (⟨#[]⟩ : ByteArray), .slice none 0 0]) (t := 28) ?hr ?_; (case hd => rfl); (case hg => rfl); (case hr => first | (go_simp; done) | (go_simp; rfl)); intro gb111 hg w23 hbox hb; have n0_ := Aside0.mk (blk_below (g := gb109) (o := .cells #[.string ((rd_T28 l0 x5_1).f0), .int .i64 ((rd_T28 l0 x5_1).f1), .bool ((rd_T28 l0 x5_1).f2), .int .i64 ((rd_T28 l0 x5_1).f3), .int .i64 ((rd_T28 l0 x5_1).f4.f0), .int .i64 ((rd_T28 l0 x5_1).f4.f1), .string ((rd_T28 l0 x5_1).f4.f2), .slice A108_7 ((rd_T28 l0 x5_1).f4.f3).length c108_7, .int .i64 ((rd_T28 l0 x5_1).f5.f0), .int .i64 ((rd_T28 l0 x5_1).f5.f1), .string ((rd_T28 l0 x5_1).f5.f2), .slice A108_11 ((rd_T28 l0 x5_1).f5.f3).length c108_11] 28 (0, 0)) (by (with_reducible repeat (first | refine blk_drewN ?_ _ | refine blk_drew ?_ | refine blk_alloc ?_ _)); refine blk_put (cs := #[.string ((rd_T28 l0 x5_1).f0), .int .i64 ((rd_T28 l0 x5_1).f1), .bool ((rd_T28 l0 x5_1).f2), .int .i64 ((rd_T28 l0 x5_1).f3), .int .i64 ((rd_T28 l0 x5_1).f4.f0), .int .i64 ((rd_T28 l0 x5_1).f4.f1), .string ((rd_T28 l0 x5_1).f4.f2), .slice A108_7 ((rd_T28 l0 x5_1).f4.f3).length c108_7, .int .i64 ((rd_T28 l0 x5_1).f5.f0), .int .i64 ((rd_T28 l0 x5_1).f5.f1), .string ((rd_T28 l0 x5_1).f5.f2), .slice none 0 0]) ?_ 11 _ rfl; (with_reducible repeat (first | refine blk_drewN ?_ _ | refine blk_drew ?_ | refine blk_alloc ?_ _)); refine blk_put (cs := #[.string ((rd_T28 l0 x5_1).f0), .int .i64 ((rd_T28 l0 x5_1).f1), .bool ((rd_T28 l0 x5_1).f2), .int .i64 ((rd_T28 l0 x5_1).f3), .int .i64 ((rd_T28 l0 x5_1).f4.f0), .int .i64 ((rd_T28 l0 x5_1).f4.f1), .string ((rd_T28 l0 x5_1).f4.f2), .slice A108_7 ((rd_T28 l0 x5_1).f4.f3).length c108_7, .int .i64 ((rd_T28 l0 x5_1).f5.f0), .int .i64 ((rd_T28 l0 x5_1).f5.f1), .string (⟨#[]⟩ : ByteArray), .slice none 0 0]) ?_ 10 _ rfl; (with_reducible repeat (first | refine blk_drewN ?_ _ | refine blk_drew ?_ | refine blk_alloc ?_ _)); refine blk_put (cs := #[.string ((rd_T28 l0 x5_1).f0), .int .i64 ((rd_T28 l0 x5_1).f1), .bool ((rd_T28 l0 x5_1).f2), .int .i64 ((rd_T28 l0 x5_1).f3), .int .i64 ((rd_T28 l0 x5_1).f4.f0), .int .i64 ((rd_T28 l0 x5_1).f4.f1), .string ((rd_T28 l0 x5_1).f4.f2), .slice A108_7 ((rd_T28 l0 x5_1).f4.f3).length c108_7, .int .i64 ((rd_T28 l0 x5_1).f5.f0), .int .i64 0, .string (⟨#[]⟩ : ByteArray), .slice none 0 0]) ?_ 9 _ rfl; (with_reducible repeat (first | refine blk_drewN ?_ _ | refine blk_drew ?_ | refine blk_alloc ?_ _)); refine blk_put (cs := #[.string ((rd_T28 l0 x5_1).f0), .int .i64 ((rd_T28 l0 x5_1).f1), .bool ((rd_T28 l0 x5_1).f2), .int .i64 ((rd_T28 l0 x5_1).f3), .int .i64 ((rd_T28 l0 x5_1).f4.f0), .int .i64 ((rd_T28 l0 x5_1).f4.f1), .string ((rd_T28 l0 x5_1).f4.f2), .slice A108_7 ((rd_T28 l0 x5_1).f4.f3).length c108_7, .int .i64 0, .int .i64 0, .string (⟨#[]⟩ : ByteArray), .slice none 0 0]) ?_ 8 _ rfl; (with_reducible repeat (first | refine blk_drewN ?_ _ | refine blk_drew ?_ | refine blk_alloc ?_ _)); refine blk_put (cs := #[.string ((rd_T28 l0 x5_1).f0), .int .i64 ((rd_T28 l0 x5_1).f1), .bool ((rd_T28 l0 x5_1).f2), .int .i64 ((rd_T28 l0 x5_1).f3), .int .i64 ((rd_T28 l0 x5_1).f4.f0), .int .i64 ((rd_T28 l0 x5_1).f4.f1), .string ((rd_T28 l0 x5_1).f4.f2), .slice none 0 0, .int .i64 0, .int .i64 0, .string (⟨#[]⟩ : ByteArray), .slice none 0 0]) ?_ 7 _ rfl; (with_reducible repeat (first | refine blk_drewN ?_ _ | refine blk_drew ?_ | refine blk_alloc ?_ _)); refine blk_put (cs := #[.string ((rd_T28 l0 x5_1).f0), .int .i64 ((rd_T28 l0 x5_1).f1), .bool ((rd_T28 l0 x5_1).f2), .int .i64 ((rd_T28 l0 x5_1).f3), .int .i64 ((rd_T28 l0 x5_1).f4.f0), .int .i64 ((rd_T28 l0 x5_1).f4.f1), .string (⟨#[]⟩ : ByteArray), .slice none 0 0, .int .i64 0, .int .i64 0, .string (⟨#[]⟩ : ByteArray), .slice none 0 0]) ?_ 6 _ rfl; (with_reducible repeat (first | refine blk_drewN ?_ _ | refine blk_drew ?_ | refine blk_alloc ?_ _)); refine blk_put (cs := #[.string ((rd_T28 l0 x5_1).f0), .int .i64 ((rd_T28 l0 x5_1).f1), .bool ((rd_T28 l0 x5_1).f2), .int .i64 ((rd_T28 l0 x5_1).f3), .int .i64 ((rd_T28 l0 x5_1).f4.f0), .int .i64 0, .string (⟨#[]⟩ : ByteArray), .slice none 0 0, .int .i64 0, .int .i64 0, .string (⟨#[]⟩ : ByteArray), .slice none 0 0]) ?_ 5 _ rfl; (with_reducible repeat (first | refine blk_drewN ?_ _ | refine blk_drew ?_ | refine blk_alloc ?_ _)); refine blk_put (cs := #[.string ((rd_T28 l0 x5_1).f0), .int .i64 ((rd_T28 l0 x5_1).f1), .bool ((rd_T28 l0 x5_1).f2), .int .i64 ((rd_T28 l0 x5_1).f3), .int .i64 0, .int .i64 0, .string (⟨#[]⟩ : ByteArray), .slice none 0 0, .int .i64 0, .int .i64 0, .string (⟨#[]⟩ : ByteArray), .slice none 0 0]) ?_ 4 _ rfl; (with_reducible repeat (first | refine blk_drewN ?_ _ | refine blk_drew ?_ | refine blk_alloc ?_ _)); refine blk_put (cs := #[.string ((rd_T28 l0 x5_1).f0), .int .i64 ((rd_T28 l0 x5_1).f1), .bool ((rd_T28 l0 x5_1).f2), .int .i64 0, .int .i64 0, .int .i64 0, .string (⟨#[]⟩ : ByteArray), .slice none 0 0, .int .i64 0, .int .i64 0, .string (⟨#[]⟩ : ByteArray), .slice none 0 0]) ?_ 3 _ rfl; (with_reducible repeat (first | refine blk_drewN ?_ _ | refine blk_drew ?_ | refine blk_alloc ?_ _)); refine blk_put (cs := #[.string ((rd_T28 l0 x5_1).f0), .int .i64 ((rd_T28 l0 x5_1).f1), .bool false, .int .i64 0, .int .i64 0, .int .i64 0, .string (⟨#[]⟩ : ByteArray), .slice none 0 0, .int .i64 0, .int .i64 0, .string (⟨#[]⟩ : ByteArray), .slice none 0 0]) ?_ 2 _ rfl; (with_reducible repeat (first | refine blk_drewN ?_ _ | refine blk_drew ?_ | refine blk_alloc ?_ _)); refine blk_put (cs := #[.string ((rd_T28 l0 x5_1).f0), .int .i64 0, .bool false, .int .i64 0, .int .i64 0, .int .i64 0, .string (⟨#[]⟩ : ByteArray), .slice none 0 0, .int .i64 0, .int .i64 0, .string (⟨#[]⟩ : ByteArray), .slice none 0 0]) ?_ 1 _ rfl; (with_reducible repeat (first | refine blk_drewN ?_ _ | refine blk_drew ?_ | refine blk_alloc ?_ _)); refine blk_put (cs := #[.string (⟨#[]⟩ : ByteArray), .int .i64 0, .bool false, .int .i64 0, .int .i64 0, .int .i64 0, .string (⟨#[]⟩ : ByteArray), .slice none 0 0, .int .i64 0, .int .i64 0, .string (⟨#[]⟩ : ByteArray), .slice none 0 0]) ?_ 0 _ rfl; (with_reducible repeat (first | refine blk_drewN ?_ _ | refine blk_drew ?_ | refine blk_alloc ?_ _)); exact BK109.out) hb); have n1_ := Aside0.mk (below_step (by repeat (first | (with_reducible first | exact HB.out | apply below_alloc | apply pw_below_drewN | apply below_drew1 | refine below_set ?_ GE109.out) | exact HB.out)) hb); have n2_ := Aside0.mk (hbox); have n3_ := Aside0.mk ((by rw [hg]; exact (below_size (by repeat (first | (with_reducible first | exact HB.out | apply below_alloc | apply pw_below_drewN | apply below_drew1 | refine below_set ?_ GE109.out) | exact HB.out))) : w.heap.size ≤ gb111)); have n4_ := Aside0.mk ((by rw [hg]; exact (below_size (by repeat (first | (with_reducible first | exact HB.out | apply below_alloc | apply pw_below_drewN | apply below_drew1 | refine below_set ?_ GE109.out) | exact HB.out))) : w.heap.size ≤ gb111)); have n5_ := Aside0.mk ((by rw [hg]; exact Nat.ne_of_lt (blk_lt (g := gb109) (o := .cells #[.string ((rd_T28 l0 x5_1).f0), .int .i64 ((rd_T28 l0 x5_1).f1), .bool ((rd_T28 l0 x5_1).f2), .int .i64 ((rd_T28 l0 x5_1).f3), .int .i64 ((rd_T28 l0 x5_1).f4.f0), .int .i64 ((rd_T28 l0 x5_1).f4.f1), .string ((rd_T28 l0 x5_1).f4.f2), .slice A108_7 ((rd_T28 l0 x5_1).f4.f3).length c108_7, .int .i64 ((rd_T28 l0 x5_1).f5.f0), .int .i64 ((rd_T28 l0 x5_1).f5.f1), .string ((rd_T28 l0 x5_1).f5.f2), .slice A108_11 ((rd_T28 l0 x5_1).f5.f3).length c108_11] 28 (0, 0)) (by (with_reducible repeat (first | refine blk_drewN ?_ _ | refine blk_drew ?_ | refine blk_alloc ?_ _)); refine blk_put (cs := #[.string ((rd_T28 l0 x5_1).f0), .int .i64 ((rd_T28 l0 x5_1).f1), .bool ((rd_T28 l0 x5_1).f2), .int .i64 ((rd_T28 l0 x5_1).f3), .int .i64 ((rd_T28 l0 x5_1).f4.f0), .int .i64 ((rd_T28 l0 x5_1).f4.f1), .string ((rd_T28 l0 x5_1).f4.f2), .slice A108_7 ((rd_T28 l0 x5_1).f4.f3).length c108_7, .int .i64 ((rd_T28 l0 x5_1).f5.f0), .int .i64 ((rd_T28 l0 x5_1).f5.f1), .string ((rd_T28 l0 x5_1).f5.f2), .slice none 0 0]) ?_ 11 _ rfl; (with_reducible repeat (first | refine blk_drewN ?_ _ | refine blk_drew ?_ | refine blk_alloc ?_ _)); refine blk_put (cs := #[.string ((rd_T28 l0 x5_1).f0), .int .i64 ((rd_T28 l0 x5_1).f1), .bool ((rd_T28 l0 x5_1).f2), .int .i64 ((rd_T28 l0 x5_1).f3), .int .i64 ((rd_T28 l0 x5_1).f4.f0), .int .i64 ((rd_T28 l0 x5_1).f4.f1), .string ((rd_T28 l0 x5_1).f4.f2), .slice A108_7 ((rd_T28 l0 x5_1).f4.f3).length c108_7, .int .i64 ((rd_T28 l0 x5_1).f5.f0), .int .i64 ((rd_T28 l0 x5_1).f5.f1), .string (⟨#[]⟩ : ByteArray), .slice none 0 0]) ?_ 10 _ rfl; (with_reducible repeat (first | refine blk_drewN ?_ _ | refine blk_drew ?_ | refine blk_alloc ?_ _)); refine blk_put (cs := #[.string ((rd_T28 l0 x5_1).f0), .int .i64 ((rd_T28 l0 x5_1).f1), .bool ((rd_T28 l0 x5_1).f2), .int .i64 ((rd_T28 l0 x5_1).f3), .int .i64 ((rd_T28 l0 x5_1).f4.f0), .int .i64 ((rd_T28 l0 x5_1).f4.f1), .string ((rd_T28 l0 x5_1).f4.f2), .slice A108_7 ((rd_T28 l0 x5_1).f4.f3).length c108_7, .int .i64 ((rd_T28 l0 x5_1).f5.f0), .int .i64 0, .string (⟨#[]⟩ : ByteArray), .slice none 0 0]) ?_ 9 _ rfl; (with_reducible repeat (first | refine blk_drewN ?_ _ | refine blk_drew ?_ | refine blk_alloc ?_ _)); refine blk_put (cs := #[.string ((rd_T28 l0 x5_1).f0), .int .i64 ((rd_T28 l0 x5_1).f1), .bool ((rd_T28 l0 x5_1).f2), .int .i64 ((rd_T28 l0 x5_1).f3), .int .i64 ((rd_T28 l0 x5_1).f4.f0), .int .i64 ((rd_T28 l0 x5_1).f4.f1), .string ((rd_T28 l0 x5_1).f4.f2), .slice A108_7 ((rd_T28 l0 x5_1).f4.f3).length c108_7, .int .i64 0, .int .i64 0, .string (⟨#[]⟩ : ByteArray), .slice none 0 0]) ?_ 8 _ rfl; (with_reducible repeat (first | refine blk_drewN ?_ _ | refine blk_drew ?_ | refine blk_alloc ?_ _)); refine blk_put (cs := #[.string ((rd_T28 l0 x5_1).f0), .int .i64 ((rd_T28 l0 x5_1).f1), .bool ((rd_T28 l0 x5_1).f2), .int .i64 ((rd_T28 l0 x5_1).f3), .int .i64 ((rd_T28 l0 x5_1).f4.f0), .int .i64 ((rd_T28 l0 x5_1).f4.f1), .string ((rd_T28 l0 x5_1).f4.f2), .slice none 0 0, .int .i64 0, .int .i64 0, .string (⟨#[]⟩ : ByteArray), .slice none 0 0]) ?_ 7 _ rfl; (with_reducible repeat (first | refine blk_drewN ?_ _ | refine blk_drew ?_ | refine blk_alloc ?_ _)); refine blk_put (cs := #[.string ((rd_T28 l0 x5_1).f0), .int .i64 ((rd_T28 l0 x5_1).f1), .bool ((rd_T28 l0 x5_1).f2), .int .i64 ((rd_T28 l0 x5_1).f3), .int .i64 ((rd_T28 l0 x5_1).f4.f0), .int .i64 ((rd_T28 l0 x5_1).f4.f1), .string (⟨#[]⟩ : ByteArray), .slice none 0 0, .int .i64 0, .int .i64 0, .string (⟨#[]⟩ : ByteArray), .slice none 0 0]) ?_ 6 _ rfl; (with_reducible repeat (first | refine blk_drewN ?_ _ | refine blk_drew ?_ | refine blk_alloc ?_ _)); refine blk_put (cs := #[.string ((rd_T28 l0 x5_1).f0), .int .i64 ((rd_T28 l0 x5_1).f1), .bool ((rd_T28 l0 x5_1).f2), .int .i64 ((rd_T28 l0 x5_1).f3), .int .i64 ((rd_T28 l0 x5_1).f4.f0), .int .i64 0, .string (⟨#[]⟩ : ByteArray), .slice none 0 0, .int .i64 0, .int .i64 0, .string (⟨#[]⟩ : ByteArray), .slice none 0 0]) ?_ 5 _ rfl; (with_reducible repeat (first | refine blk_drewN ?_ _ | refine blk_drew ?_ | refine blk_alloc ?_ _)); refine blk_put (cs := #[.string ((rd_T28 l0 x5_1).f0), .int .i64 ((rd_T28 l0 x5_1).f1), .bool ((rd_T28 l0 x5_1).f2), .int .i64 ((rd_T28 l0 x5_1).f3), .int .i64 0, .int .i64 0, .string (⟨#[]⟩ : ByteArray), .slice none 0 0, .int .i64 0, .int .i64 0, .string (⟨#[]⟩ : ByteArray), .slice none 0 0]) ?_ 4 _ rfl; (with_reducible repeat (first | refine blk_drewN ?_ _ | refine blk_drew ?_ | refine blk_alloc ?_ _)); refine blk_put (cs := #[.string ((rd_T28 l0 x5_1).f0), .int .i64 ((rd_T28 l0 x5_1).f1), .bool ((rd_T28 l0 x5_1).f2), .int .i64 0, .int .i64 0, .int .i64 0, .string (⟨#[]⟩ : ByteArray), .slice none 0 0, .int .i64 0, .int .i64 0, .string (⟨#[]⟩ : ByteArray), .slice none 0 0]) ?_ 3 _ rfl; (with_reducible repeat (first | refine blk_drewN ?_ _ | refine blk_drew ?_ | refine blk_alloc ?_ _)); refine blk_put (cs := #[.string ((rd_T28 l0 x5_1).f0), .int .i64 ((rd_T28 l0 x5_1).f1), .bool false, .int .i64 0, .int .i64 0, .int .i64 0, .string (⟨#[]⟩ : ByteArray), .slice none 0 0, .int .i64 0, .int .i64 0, .string (⟨#[]⟩ : ByteArray), .slice none 0 0]) ?_ 2 _ rfl; (with_reducible repeat (first | refine blk_drewN ?_ _ | refine blk_drew ?_ | refine blk_alloc ?_ _)); refine blk_put (cs := #[.string ((rd_T28 l0 x5_1).f0), .int .i64 0, .bool false, .int .i64 0, .int .i64 0, .int .i64 0, .string (⟨#[]⟩ : ByteArray), .slice none 0 0, .int .i64 0, .int .i64 0, .string (⟨#[]⟩ : ByteArray), .slice none 0 0]) ?_ 1 _ rfl; (with_reducible repeat (first | refine blk_drewN ?_ _ | refine blk_drew ?_ | refine blk_alloc ?_ _)); refine blk_put (cs := #[.string (⟨#[]⟩ : ByteArray), .int .i64 0, .bool false, .int .i64 0, .int .i64 0, .int .i64 0, .string (⟨#[]⟩ : ByteArray), .slice none 0 0, .int .i64 0, .int .i64 0, .string (⟨#[]⟩ : ByteArray), .slice none 0 0]) ?_ 0 _ rfl; (with_reducible repeat (first | refine blk_drewN ?_ _ | refine blk_drew ?_ | refine blk_alloc ?_ _)); exact BK109.out)) : gb109 ≠ gb111)); have n6_ := Aside0.mk ((by rw [hg]; exact Nat.ne_of_gt (blk_lt (g := gb109) (o := .cells #[.string ((rd_T28 l0 x5_1).f0), .int .i64 ((rd_T28 l0 x5_1).f1), .bool ((rd_T28 l0 x5_1).f2), .int .i64 ((rd_T28 l0 x5_1).f3), .int .i64 ((rd_T28 l0 x5_1).f4.f0), .int .i64 ((rd_T28 l0 x5_1).f4.f1), .string ((rd_T28 l0 x5_1).f4.f2), .slice A108_7 ((rd_T28 l0 x5_1).f4.f3).length c108_7, .int .i64 ((rd_T28 l0 x5_1).f5.f0), .int .i64 ((rd_T28 l0 x5_1).f5.f1), .string ((rd_T28 l0 x5_1).f5.f2), .slice A108_11 ((rd_T28 l0 x5_1).f5.f3).length c108_11] 28 (0, 0)) (by (with_reducible repeat (first | refine blk_drewN ?_ _ | refine blk_drew ?_ | refine blk_alloc ?_ _)); refine blk_put (cs := #[.string ((rd_T28 l0 x5_1).f0), .int .i64 ((rd_T28 l0 x5_1).f1), .bool ((rd_T28 l0 x5_1).f2), .int .i64 ((rd_T28 l0 x5_1).f3), .int .i64 ((rd_T28 l0 x5_1).f4.f0), .int .i64 ((rd_T28 l0 x5_1).f4.f1), .string ((rd_T28 l0 x5_1).f4.f2), .slice A108_7 ((rd_T28 l0 x5_1).f4.f3).length c108_7, .int .i64 ((rd_T28 l0 x5_1).f5.f0), .int .i64 ((rd_T28 l0 x5_1).f5.f1), .string ((rd_T28 l0 x5_1).f5.f2), .slice none 0 0]) ?_ 11 _ rfl; (with_reducible repeat (first | refine blk_drewN ?_ _ | refine blk_drew ?_ | refine blk_alloc ?_ _)); refine blk_put (cs := #[.string ((rd_T28 l0 x5_1).f0), .int .i64 ((rd_T28 l0 x5_1).f1), .bool ((rd_T28 l0 x5_1).f2), .int .i64 ((rd_T28 l0 x5_1).f3), .int .i64 ((rd_T28 l0 x5_1).f4.f0), .int .i64 ((rd_T28 l0 x5_1).f4.f1), .string ((rd_T28 l0 x5_1).f4.f2), .slice A108_7 ((rd_T28 l0 x5_1).f4.f3).length c108_7, .int .i64 ((rd_T28 l0 x5_1).f5.f0), .int .i64 ((rd_T28 l0 x5_1).f5.f1), .string (⟨#[]⟩ : ByteArray), .slice none 0 0]) ?_ 10 _ rfl; (with_reducible repeat (first | refine blk_drewN ?_ _ | refine blk_drew ?_ | refine blk_alloc ?_ _)); refine blk_put (cs := #[.string ((rd_T28 l0 x5_1).f0), .int .i64 ((rd_T28 l0 x5_1).f1), .bool ((rd_T28 l0 x5_1).f2), .int .i64 ((rd_T28 l0 x5_1).f3), .int .i64 ((rd_T28 l0 x5_1).f4.f0), .int .i64 ((rd_T28 l0 x5_1).f4.f1), .string ((rd_T28 l0 x5_1).f4.f2), .slice A108_7 ((rd_T28 l0 x5_1).f4.f3).length c108_7, .int .i64 ((rd_T28 l0 x5_1).f5.f0), .int .i64 0, .string (⟨#[]⟩ : ByteArray), .slice none 0 0]) ?_ 9 _ rfl; (with_reducible repeat (first | refine blk_drewN ?_ _ | refine blk_drew ?_ | refine blk_alloc ?_ _)); refine blk_put (cs := #[.string ((rd_T28 l0 x5_1).f0), .int .i64 ((rd_T28 l0 x5_1).f1), .bool ((rd_T28 l0 x5_1).f2), .int .i64 ((rd_T28 l0 x5_1).f3), .int .i64 ((rd_T28 l0 x5_1).f4.f0), .int .i64 ((rd_T28 l0 x5_1).f4.f1), .string ((rd_T28 l0 x5_1).f4.f2), .slice A108_7 ((rd_T28 l0 x5_1).f4.f3).length c108_7, .int .i64 0, .int .i64 0, .string (⟨#[]⟩ : ByteArray), .slice none 0 0]) ?_ 8 _ rfl; (with_reducible repeat (first | refine blk_drewN ?_ _ | refine blk_drew ?_ | refine blk_alloc ?_ _)); refine blk_put (cs := #[.string ((rd_T28 l0 x5_1).f0), .int .i64 ((rd_T28 l0 x5_1).f1), .bool ((rd_T28 l0 x5_1).f2), .int .i64 ((rd_T28 l0 x5_1).f3), .int .i64 ((rd_T28 l0 x5_1).f4.f0), .int .i64 ((rd_T28 l0 x5_1).f4.f1), .string ((rd_T28 l0 x5_1).f4.f2), .slice none 0 0, .int .i64 0, .int .i64 0, .string (⟨#[]⟩ : ByteArray), .slice none 0 0]) ?_ 7 _ rfl; (with_reducible repeat (first | refine blk_drewN ?_ _ | refine blk_drew ?_ | refine blk_alloc ?_ _)); refine blk_put (cs := #[.string ((rd_T28 l0 x5_1).f0), .int .i64 ((rd_T28 l0 x5_1).f1), .bool ((rd_T28 l0 x5_1).f2), .int .i64 ((rd_T28 l0 x5_1).f3), .int .i64 ((rd_T28 l0 x5_1).f4.f0), .int .i64 ((rd_T28 l0 x5_1).f4.f1), .string (⟨#[]⟩ : ByteArray), .slice none 0 0, .int .i64 0, .int .i64 0, .string (⟨#[]⟩ : ByteArray), .slice none 0 0]) ?_ 6 _ rfl; (with_reducible repeat (first | refine blk_drewN ?_ _ | refine blk_drew ?_ | refine blk_alloc ?_ _)); refine blk_put (cs := #[.string ((rd_T28 l0 x5_1).f0), .int .i64 ((rd_T28 l0 x5_1).f1), .bool ((rd_T28 l0 x5_1).f2), .int .i64 ((rd_T28 l0 x5_1).f3), .int .i64 ((rd_T28 l0 x5_1).f4.f0), .int .i64 0, .string (⟨#[]⟩ : ByteArray), .slice none 0 0, .int .i64 0, .int .i64 0, .string (⟨#[]⟩ : ByteArray), .slice none 0 0]) ?_ 5 _ rfl; (with_reducible repeat (first | refine blk_drewN ?_ _ | refine blk_drew ?_ | refine blk_alloc ?_ _)); refine blk_put (cs := #[.string ((rd_T28 l0 x5_1).f0), .int .i64 ((rd_T28 l0 x5_1).f1), .bool ((rd_T28 l0 x5_1).f2), .int .i64 ((rd_T28 l0 x5_1).f3), .int .i64 0, .int .i64 0, .string (⟨#[]⟩ : ByteArray), .slice none 0 0, .int .i64 0, .int .i64 0, .string (⟨#[]⟩ : ByteArray), .slice none 0 0]) ?_ 4 _ rfl; (with_reducible repeat (first | refine blk_drewN ?_ _ | refine blk_drew ?_ | refine blk_alloc ?_ _)); refine blk_put (cs := #[.string ((rd_T28 l0 x5_1).f0), .int .i64 ((rd_T28 l0 x5_1).f1), .bool ((rd_T28 l0 x5_1).f2), .int .i64 0, .int .i64 0, .int .i64 0, .string (⟨#[]⟩ : ByteArray), .slice none 0 0, .int .i64 0, .int .i64 0, .string (⟨#[]⟩ : ByteArray), .slice none 0 0]) ?_ 3 _ rfl; (with_reducible repeat (first | refine blk_drewN ?_ _ | refine blk_drew ?_ | refine blk_alloc ?_ _)); refine blk_put (cs := #[.string ((rd_T28 l0 x5_1).f0), .int .i64 ((rd_T28 l0 x5_1).f1), .bool false, .int .i64 0, .int .i64 0, .int .i64 0, .string (⟨#[]⟩ : ByteArray), .slice none 0 0, .int .i64 0, .int .i64 0, .string (⟨#[]⟩ : ByteArray), .slice none 0 0]) ?_ 2 _ rfl; (with_reducible repeat (first | refine blk_drewN ?_ _ | refine blk_drew ?_ | refine blk_alloc ?_ _)); refine blk_put (cs := #[.string ((rd_T28 l0 x5_1).f0), .int .i64 0, .bool false, .int .i64 0, .int .i64 0, .int .i64 0, .string (⟨#[]⟩ : ByteArray), .slice none 0 0, .int .i64 0, .int .i64 0, .string (⟨#[]⟩ : ByteArray), .slice none 0 0]) ?_ 1 _ rfl; (with_reducible repeat (first | refine blk_drewN ?_ _ | refine blk_drew ?_ | refine blk_alloc ?_ _)); refine blk_put (cs := #[.string (⟨#[]⟩ : ByteArray), .int .i64 0, .bool false, .int .i64 0, .int .i64 0, .int .i64 0, .string (⟨#[]⟩ : ByteArray), .slice none 0 0, .int .i64 0, .int .i64 0, .string (⟨#[]⟩ : ByteArray), .slice none 0 0]) ?_ 0 _ rfl; (with_reducible repeat (first | refine blk_drewN ?_ _ | refine blk_drew ?_ | refine blk_alloc ?_ _)); exact BK109.out)) : gb111 ≠ gb109)); clear BK109; clear HB; have BK109 := n0_; have HB := n1_; have BK111 := n2_; have GW111 := n3_; have GE111 := n4_; have NB109_111 := n5_; have NB111_109 := n6_; clear n0_ n1_ n2_ n3_ n4_ n5_ n6_; clear hb hbox hg; have hnb24 := NB111_109.out; have hnc24 := NB109_111.out; have hcz25_0 : w23.cell? ⟨gb111, 0, none⟩ = some (.string (⟨#[]⟩ : ByteArray)) := (blk_cell BK111.out 0).trans rfl; have hcz25_1 : w23.cell? ⟨gb111, 1, none⟩ = some (.int .i64 0) := (blk_cell BK111.out 1).trans rfl; have hcz25_2 : w23.cell? ⟨gb111, 2, none⟩ = some (.bool false) := (blk_cell BK111.out 2).trans rfl; have hcz25_3 : w23.cell? ⟨gb111, 3, none⟩ = some (.int .i64 0) := (blk_cell BK111.out 3).trans rfl; have hcz25_4 : w23.cell? ⟨gb111, 4, none⟩ = some (.int .i64 0) := (blk_cell BK111.out 4).trans rfl; have hcz25_5 : w23.cell? ⟨gb111, 5, none⟩ = some (.int .i64 0) := (blk_cell BK111.out 5).trans rfl; have hcz25_6 : w23.cell? ⟨gb111, 6, none⟩ = some (.string (⟨#[]⟩ : ByteArray)) := (blk_cell BK111.out 6).trans rfl; have hcz25_7 : w23.cell? ⟨gb111, 7, none⟩ = some (.slice none 0 0) := (blk_cell BK111.out 7).trans rfl; have hcz25_8 : w23.cell? ⟨gb111, 8, none⟩ = some (.int .i64 0) := (blk_cell BK111.out 8).trans rfl; have hcz25_9 : w23.cell? ⟨gb111, 9, none⟩ = some (.int .i64 0) := (blk_cell BK111.out 9).trans rfl; have hcz25_10 : w23.cell? ⟨gb111, 10, none⟩ = some (.string (⟨#[]⟩ : ByteArray)) := (blk_cell BK111.out 10).trans rfl; have hcz25_11 : w23.cell? ⟨gb111, 11, none⟩ = some (.slice none 0 0) := (blk_cell BK111.out 11).trans rfl; have hfz25_0 := blk_frozen BK111.out 0; have hfz25_1 := blk_frozen BK111.out 1; have hfz25_2 := blk_frozen BK111.out 2; have hfz25_3 := blk_frozen BK111.out 3; have hfz25_4 := blk_frozen BK111.out 4; have hfz25_5 := blk_frozen BK111.out 5; have hfz25_6 := blk_frozen BK111.out 6; have hfz25_7 := blk_frozen BK111.out 7; have hfz25_8 := blk_frozen BK111.out 8; have hfz25_9 := blk_frozen BK111.out 9; have hfz25_10 := blk_frozen BK111.out 10; have hfz25_11 := blk_frozen BK111.out 11; have hcz26_0 : w23.cell? ⟨gb109, 0, none⟩ = some (.string ((rd_T28 l0 x5_1).f0)) := (blk_cell BK109.out 0).trans rfl; have hcz26_1 : w23.cell? ⟨gb109, 1, none⟩ = some (.int .i64 ((rd_T28 l0 x5_1).f1)) := (blk_cell BK109.out 1).trans rfl; have hcz26_2 : w23.cell? ⟨gb109, 2, none⟩ = some (.bool ((rd_T28 l0 x5_1).f2)) := (blk_cell BK109.out 2).trans rfl; have hcz26_3 : w23.cell? ⟨gb109, 3, none⟩ = some (.int .i64 ((rd_T28 l0 x5_1).f3)) := (blk_cell BK109.out 3).trans rfl; have hcz26_4 : w23.cell? ⟨gb109, 4, none⟩ = some (.int .i64 ((rd_T28 l0 x5_1).f4.f0)) := (blk_cell BK109.out 4).trans rfl; have hcz26_5 : w23.cell? ⟨gb109, 5, none⟩ = some (.int .i64 ((rd_T28 l0 x5_1).f4.f1)) := (blk_cell BK109.out 5).trans rfl; have hcz26_6 : w23.cell? ⟨gb109, 6, none⟩ = some (.string ((rd_T28 l0 x5_1).f4.f2)) := (blk_cell BK109.out 6).trans rfl; have hcz26_7 : w23.cell? ⟨gb109, 7, none⟩ = some (.slice A108_7 ((rd_T28 l0 x5_1).f4.f3).length c108_7) := (blk_cell BK109.out 7).trans rfl; have hcz26_8 : w23.cell? ⟨gb109, 8, none⟩ = some (.int .i64 ((rd_T28 l0 x5_1).f5.f0)) := (blk_cell BK109.out 8).trans rfl; have hcz26_9 : w23.cell? ⟨gb109, 9, none⟩ = some (.int .i64 ((rd_T28 l0 x5_1).f5.f1)) := (blk_cell BK109.out 9).trans rfl; have hcz26_10 : w23.cell? ⟨gb109, 10, none⟩ = some (.string ((rd_T28 l0 x5_1).f5.f2)) := (blk_cell BK109.out 10).trans rfl; have hcz26_11 : w23.cell? ⟨gb109, 11, none⟩ = some (.slice A108_11 ((rd_T28 l0 x5_1).f5.f3).length c108_11) := (blk_cell BK109.out 11).trans rfl; have hfz26_0 := blk_frozen BK109.out 0; have hfz26_1 := blk_frozen BK109.out 1; have hfz26_2 := blk_frozen BK109.out 2; have hfz26_3 := blk_frozen BK109.out 3; have hfz26_4 := blk_frozen BK109.out 4; have hfz26_5 := blk_frozen BK109.out 5; have hfz26_6 := blk_frozen BK109.out 6; have hfz26_7 := blk_frozen BK109.out 7; have hfz26_8 := blk_frozen BK109.out 8; have hfz26_9 := blk_frozen BK109.out 9; have hfz26_10 := blk_frozen BK109.out 10; have hfz26_11 := blk_frozen BK109.out 11) | (go_at_call 42; (with_reducible refine (kindlingref05_SameType.calls k1 ((rd_T28 l0 x5_1).f4.f0) ((rd_T28 l0 x5_1).f4.f1) ((rd_T28 l0 x5_1).f4.f2) _ _ ((rd_T28 l0 x5_1).f4.f3) ((rd_T28 l1 x5_1).f4.f0) ((rd_T28 l1 x5_1).f4.f1) ((rd_T28 l1 x5_1).f4.f2) _ _ ((rd_T28 l1 x5_1).f4.f3) true _ ?side1 ?side2 ?side3 ?side4 A17.out).mono ?_); (case side1 => exact Kd.C_below HR108_7.out (by repeat (first | (with_reducible first | exact HB.out | apply below_alloc | apply pw_below_drewN | apply below_drew1 | refine below_set ?_ GE109.out | refine below_set ?_ GE111.out) | exact HB.out))); (case side2 => exact HC108_7.out); (case side3 => exact Kd.C_below HR110_7.out (by repeat (first | (with_reducible first | exact HB.out | apply below_alloc | apply pw_below_drewN | apply below_drew1 | refine below_set ?_ GE109.out | refine below_set ?_ GE111.out) | exact HB.out))); (case side4 => exact HC110_7.out); rintro e w27 ⟨rfl, hb⟩; have n0_ := Aside0.mk (blk_below (g := gb109) (o := .cells #[.string ((rd_T28 l0 x5_1).f0), .int .i64 ((rd_T28 l0 x5_1).f1), .bool ((rd_T28 l0 x5_1).f2), .int .i64 ((rd_T28 l0 x5_1).f3), .int .i64 ((rd_T28 l0 x5_1).f4.f0), .int .i64 ((rd_T28 l0 x5_1).f4.f1), .string ((rd_T28 l0 x5_1).f4.f2), .slice A108_7 ((rd_T28 l0 x5_1).f4.f3).length c108_7, .int .i64 ((rd_T28 l0 x5_1).f5.f0), .int .i64 ((rd_T28 l0 x5_1).f5.f1), .string ((rd_T28 l0 x5_1).f5.f2), .slice A108_11 ((rd_T28 l0 x5_1).f5.f3).length c108_11] 28 (0, 0)) (by (with_reducible repeat (first | refine blk_drewN ?_ _ | refine blk_drew ?_ | refine blk_alloc ?_ _)); refine blk_far ?_ NB109_111.out _; (with_reducible repeat (first | refine blk_drewN ?_ _ | refine blk_drew ?_ | refine blk_alloc ?_ _)); refine blk_far ?_ NB109_111.out _; (with_reducible repeat (first | refine blk_drewN ?_ _ | refine blk_drew ?_ | refine blk_alloc ?_ _)); refine blk_far ?_ NB109_111.out _; (with_reducible repeat (first | refine blk_drewN ?_ _ | refine blk_drew ?_ | refine blk_alloc ?_ _)); refine blk_far ?_ NB109_111.out _; (with_reducible repeat (first | refine blk_drewN ?_ _ | refine blk_drew ?_ | refine blk_alloc ?_ _)); refine blk_far ?_ NB109_111.out _; (with_reducible repeat (first | refine blk_drewN ?_ _ | refine blk_drew ?_ | refine blk_alloc ?_ _)); refine blk_far ?_ NB109_111.out _; (with_reducible repeat (first | refine blk_drewN ?_ _ | refine blk_drew ?_ | refine blk_alloc ?_ _)); refine blk_far ?_ NB109_111.out _; (with_reducible repeat (first | refine blk_drewN ?_ _ | refine blk_drew ?_ | refine blk_alloc ?_ _)); refine blk_far ?_ NB109_111.out _; (with_reducible repeat (first | refine blk_drewN ?_ _ | refine blk_drew ?_ | refine blk_alloc ?_ _)); refine blk_far ?_ NB109_111.out _; (with_reducible repeat (first | refine blk_drewN ?_ _ | refine blk_drew ?_ | refine blk_alloc ?_ _)); refine blk_far ?_ NB109_111.out _; (with_reducible repeat (first | refine blk_drewN ?_ _ | refine blk_drew ?_ | refine blk_alloc ?_ _)); refine blk_far ?_ NB109_111.out _; (with_reducible repeat (first | refine blk_drewN ?_ _ | refine blk_drew ?_ | refine blk_alloc ?_ _)); refine blk_far ?_ NB109_111.out _; (with_reducible repeat (first | refine blk_drewN ?_ _ | refine blk_drew ?_ | refine blk_alloc ?_ _)); exact BK109.out) hb); have n1_ := Aside0.mk (blk_below (g := gb111) (o := .cells #[.string ((rd_T28 l1 x5_1).f0), .int .i64 ((rd_T28 l1 x5_1).f1), .bool ((rd_T28 l1 x5_1).f2), .int .i64 ((rd_T28 l1 x5_1).f3), .int .i64 ((rd_T28 l1 x5_1).f4.f0), .int .i64 ((rd_T28 l1 x5_1).f4.f1), .string ((rd_T28 l1 x5_1).f4.f2), .slice A110_7 ((rd_T28 l1 x5_1).f4.f3).length c110_7, .int .i64 ((rd_T28 l1 x5_1).f5.f0), .int .i64 ((rd_T28 l1 x5_1).f5.f1), .string ((rd_T28 l1 x5_1).f5.f2), .slice A110_11 ((rd_T28 l1 x5_1).f5.f3).length c110_11] 28 (0, 0)) (by (with_reducible repeat (first | refine blk_drewN ?_ _ | refine blk_drew ?_ | refine blk_alloc ?_ _)); refine blk_put (cs := #[.string ((rd_T28 l1 x5_1).f0), .int .i64 ((rd_T28 l1 x5_1).f1), .bool ((rd_T28 l1 x5_1).f2), .int .i64 ((rd_T28 l1 x5_1).f3), .int .i64 ((rd_T28 l1 x5_1).f4.f0), .int .i64 ((rd_T28 l1 x5_1).f4.f1), .string ((rd_T28 l1 x5_1).f4.f2), .slice A110_7 ((rd_T28 l1 x5_1).f4.f3).length c110_7, .int .i64 ((rd_T28 l1 x5_1).f5.f0), .int .i64 ((rd_T28 l1 x5_1).f5.f1), .string ((rd_T28 l1 x5_1).f5.f2), .slice none 0 0]) ?_ 11 _ rfl; (with_reducible repeat (first | refine blk_drewN ?_ _ | refine blk_drew ?_ | refine blk_alloc ?_ _)); refine blk_put (cs := #[.string ((rd_T28 l1 x5_1).f0), .int .i64 ((rd_T28 l1 x5_1).f1), .bool ((rd_T28 l1 x5_1).f2), .int .i64 ((rd_T28 l1 x5_1).f3), .int .i64 ((rd_T28 l1 x5_1).f4.f0), .int .i64 ((rd_T28 l1 x5_1).f4.f1), .string ((rd_T28 l1 x5_1).f4.f2), .slice A110_7 ((rd_T28 l1 x5_1).f4.f3).length c110_7, .int .i64 ((rd_T28 l1 x5_1).f5.f0), .int .i64 ((rd_T28 l1 x5_1).f5.f1), .string (⟨#[]⟩ : ByteArray), .slice none 0 0]) ?_ 10 _ rfl; (with_reducible repeat (first | refine blk_drewN ?_ _ | refine blk_drew ?_ | refine blk_alloc ?_ _)); refine blk_put (cs := #[.string ((rd_T28 l1 x5_1).f0), .int .i64 ((rd_T28 l1 x5_1).f1), .bool ((rd_T28 l1 x5_1).f2), .int .i64 ((rd_T28 l1 x5_1).f3), .int .i64 ((rd_T28 l1 x5_1).f4.f0), .int .i64 ((rd_T28 l1 x5_1).f4.f1), .string ((rd_T28 l1 x5_1).f4.f2), .slice A110_7 ((rd_T28 l1 x5_1).f4.f3).length c110_7, .int .i64 ((rd_T28 l1 x5_1).f5.f0), .int .i64 0, .string (⟨#[]⟩ : ByteArray), .slice none 0 0]) ?_ 9 _ rfl; (with_reducible repeat (first | refine blk_drewN ?_ _ | refine blk_drew ?_ | refine blk_alloc ?_ _)); refine blk_put (cs := #[.string ((rd_T28 l1 x5_1).f0), .int .i64 ((rd_T28 l1 x5_1).f1), .bool ((rd_T28 l1 x5_1).f2), .int .i64 ((rd_T28 l1 x5_1).f3), .int .i64 ((rd_T28 l1 x5_1).f4.f0), .int .i64 ((rd_T28 l1 x5_1).f4.f1), .string ((rd_T28 l1 x5_1).f4.f2), .slice A110_7 ((rd_T28 l1 x5_1).f4.f3).length c110_7, .int .i64 0, .int .i64 0, .string (⟨#[]⟩ : ByteArray), .slice none 0 0]) ?_ 8 _ rfl; (with_reducible repeat (first | refine blk_drewN ?_ _ | refine blk_drew ?_ | refine blk_alloc ?_ _)); refine blk_put (cs := #[.string ((rd_T28 l1 x5_1).f0), .int .i64 ((rd_T28 l1 x5_1).f1), .bool ((rd_T28 l1 x5_1).f2), .int .i64 ((rd_T28 l1 x5_1).f3), .int .i64 ((rd_T28 l1 x5_1).f4.f0), .int .i64 ((rd_T28 l1 x5_1).f4.f1), .string ((rd_T28 l1 x5_1).f4.f2), .slice none 0 0, .int .i64 0, .int .i64 0, .string (⟨#[]⟩ : ByteArray), .slice none 0 0]) ?_ 7 _ rfl; (with_reducible repeat (first | refine blk_drewN ?_ _ | refine blk_drew ?_ | refine blk_alloc ?_ _)); refine blk_put (cs := #[.string ((rd_T28 l1 x5_1).f0), .int .i64 ((rd_T28 l1 x5_1).f1), .bool ((rd_T28 l1 x5_1).f2), .int .i64 ((rd_T28 l1 x5_1).f3), .int .i64 ((rd_T28 l1 x5_1).f4.f0), .int .i64 ((rd_T28 l1 x5_1).f4.f1), .string (⟨#[]⟩ : ByteArray), .slice none 0 0, .int .i64 0, .int .i64 0, .string (⟨#[]⟩ : ByteArray), .slice none 0 0]) ?_ 6 _ rfl; (with_reducible repeat (first | refine blk_drewN ?_ _ | refine blk_drew ?_ | refine blk_alloc ?_ _)); refine blk_put (cs := #[.string ((rd_T28 l1 x5_1).f0), .int .i64 ((rd_T28 l1 x5_1).f1), .bool ((rd_T28 l1 x5_1).f2), .int .i64 ((rd_T28 l1 x5_1).f3), .int .i64 ((rd_T28 l1 x5_1).f4.f0), .int .i64 0, .string (⟨#[]⟩ : ByteArray), .slice none 0 0, .int .i64 0, .int .i64 0, .string (⟨#[]⟩ : ByteArray), .slice none 0 0]) ?_ 5 _ rfl; (with_reducible repeat (first | refine blk_drewN ?_ _ | refine blk_drew ?_ | refine blk_alloc ?_ _)); refine blk_put (cs := #[.string ((rd_T28 l1 x5_1).f0), .int .i64 ((rd_T28 l1 x5_1).f1), .bool ((rd_T28 l1 x5_1).f2), .int .i64 ((rd_T28 l1 x5_1).f3), .int .i64 0, .int .i64 0, .string (⟨#[]⟩ : ByteArray), .slice none 0 0, .int .i64 0, .int .i64 0, .string (⟨#[]⟩ : ByteArray), .slice none 0 0]) ?_ 4 _ rfl; (with_reducible repeat (first | refine blk_drewN ?_ _ | refine blk_drew ?_ | refine blk_alloc ?_ _)); refine blk_put (cs := #[.string ((rd_T28 l1 x5_1).f0), .int .i64 ((rd_T28 l1 x5_1).f1), .bool ((rd_T28 l1 x5_1).f2), .int .i64 0, .int .i64 0, .int .i64 0, .string (⟨#[]⟩ : ByteArray), .slice none 0 0, .int .i64 0, .int .i64 0, .string (⟨#[]⟩ : ByteArray), .slice none 0 0]) ?_ 3 _ rfl; (with_reducible repeat (first | refine blk_drewN ?_ _ | refine blk_drew ?_ | refine blk_alloc ?_ _)); refine blk_put (cs := #[.string ((rd_T28 l1 x5_1).f0), .int .i64 ((rd_T28 l1 x5_1).f1), .bool false, .int .i64 0, .int .i64 0, .int .i64 0, .string (⟨#[]⟩ : ByteArray), .slice none 0 0, .int .i64 0, .int .i64 0, .string (⟨#[]⟩ : ByteArray), .slice none 0 0]) ?_ 2 _ rfl; (with_reducible repeat (first | refine blk_drewN ?_ _ | refine blk_drew ?_ | refine blk_alloc ?_ _)); refine blk_put (cs := #[.string ((rd_T28 l1 x5_1).f0), .int .i64 0, .bool false, .int .i64 0, .int .i64 0, .int .i64 0, .string (⟨#[]⟩ : ByteArray), .slice none 0 0, .int .i64 0, .int .i64 0, .string (⟨#[]⟩ : ByteArray), .slice none 0 0]) ?_ 1 _ rfl; (with_reducible repeat (first | refine blk_drewN ?_ _ | refine blk_drew ?_ | refine blk_alloc ?_ _)); refine blk_put (cs := #[.string (⟨#[]⟩ : ByteArray), .int .i64 0, .bool false, .int .i64 0, .int .i64 0, .int .i64 0, .string (⟨#[]⟩ : ByteArray), .slice none 0 0, .int .i64 0, .int .i64 0, .string (⟨#[]⟩ : ByteArray), .slice none 0 0]) ?_ 0 _ rfl; (with_reducible repeat (first | refine blk_drewN ?_ _ | refine blk_drew ?_ | refine blk_alloc ?_ _)); exact BK111.out) hb); have n2_ := Aside0.mk (below_step (by repeat (first | (with_reducible first | exact HB.out | apply below_alloc | apply pw_below_drewN | apply below_drew1 | refine below_set ?_ GE109.out | refine below_set ?_ GE111.out) | exact HB.out)) hb); clear BK109; clear BK111; clear HB; have BK109 := n0_; have BK111 := n1_; have HB := n2_; clear n0_ n1_ n2_; (try clear hb); (try clear hb2); (try clear hk); (try clear hi); have hcz28_0 : w27.cell? ⟨gb109, 0, none⟩ = some (.string ((rd_T28 l0 x5_1).f0)) := (blk_cell BK109.out 0).trans rfl; have hcz28_1 : w27.cell? ⟨gb109, 1, none⟩ = some (.int .i64 ((rd_T28 l0 x5_1).f1)) := (blk_cell BK109.out 1).trans rfl; have hcz28_2 : w27.cell? ⟨gb109, 2, none⟩ = some (.bool ((rd_T28 l0 x5_1).f2)) := (blk_cell BK109.out 2).trans rfl; have hcz28_3 : w27.cell? ⟨gb109, 3, none⟩ = some (.int .i64 ((rd_T28 l0 x5_1).f3)) := (blk_cell BK109.out 3).trans rfl; have hcz28_4 : w27.cell? ⟨gb109, 4, none⟩ = some (.int .i64 ((rd_T28 l0 x5_1).f4.f0)) := (blk_cell BK109.out 4).trans rfl; have hcz28_5 : w27.cell? ⟨gb109, 5, none⟩ = some (.int .i64 ((rd_T28 l0 x5_1).f4.f1)) := (blk_cell BK109.out 5).trans rfl; have hcz28_6 : w27.cell? ⟨gb109, 6, none⟩ = some (.string ((rd_T28 l0 x5_1).f4.f2)) := (blk_cell BK109.out 6).trans rfl; have hcz28_7 : w27.cell? ⟨gb109, 7, none⟩ = some (.slice A108_7 ((rd_T28 l0 x5_1).f4.f3).length c108_7) := (blk_cell BK109.out 7).trans rfl; have hcz28_8 : w27.cell? ⟨gb109, 8, none⟩ = some (.int .i64 ((rd_T28 l0 x5_1).f5.f0)) := (blk_cell BK109.out 8).trans rfl; have hcz28_9 : w27.cell? ⟨gb109, 9, none⟩ = some (.int .i64 ((rd_T28 l0 x5_1).f5.f1)) := (blk_cell BK109.out 9).trans rfl; have hcz28_10 : w27.cell? ⟨gb109, 10, none⟩ = some (.string ((rd_T28 l0 x5_1).f5.f2)) := (blk_cell BK109.out 10).trans rfl; have hcz28_11 : w27.cell? ⟨gb109, 11, none⟩ = some (.slice A108_11 ((rd_T28 l0 x5_1).f5.f3).length c108_11) := (blk_cell BK109.out 11).trans rfl; have hfz28_0 := blk_frozen BK109.out 0; have hfz28_1 := blk_frozen BK109.out 1; have hfz28_2 := blk_frozen BK109.out 2; have hfz28_3 := blk_frozen BK109.out 3; have hfz28_4 := blk_frozen BK109.out 4; have hfz28_5 := blk_frozen BK109.out 5; have hfz28_6 := blk_frozen BK109.out 6; have hfz28_7 := blk_frozen BK109.out 7; have hfz28_8 := blk_frozen BK109.out 8; have hfz28_9 := blk_frozen BK109.out 9; have hfz28_10 := blk_frozen BK109.out 10; have hfz28_11 := blk_frozen BK109.out 11; have hcz29_0 : w27.cell? ⟨gb111, 0, none⟩ = some (.string ((rd_T28 l1 x5_1).f0)) := (blk_cell BK111.out 0).trans rfl; have hcz29_1 : w27.cell? ⟨gb111, 1, none⟩ = some (.int .i64 ((rd_T28 l1 x5_1).f1)) := (blk_cell BK111.out 1).trans rfl; have hcz29_2 : w27.cell? ⟨gb111, 2, none⟩ = some (.bool ((rd_T28 l1 x5_1).f2)) := (blk_cell BK111.out 2).trans rfl; have hcz29_3 : w27.cell? ⟨gb111, 3, none⟩ = some (.int .i64 ((rd_T28 l1 x5_1).f3)) := (blk_cell BK111.out 3).trans rfl; have hcz29_4 : w27.cell? ⟨gb111, 4, none⟩ = some (.int .i64 ((rd_T28 l1 x5_1).f4.f0)) := (blk_cell BK111.out 4).trans rfl; have hcz29_5 : w27.cell? ⟨gb111, 5, none⟩ = some (.int .i64 ((rd_T28 l1 x5_1).f4.f1)) := (blk_cell BK111.out 5).trans rfl; have hcz29_6 : w27.cell? ⟨gb111, 6, none⟩ = some (.string ((rd_T28 l1 x5_1).f4.f2)) := (blk_cell BK111.out 6).trans rfl; have hcz29_7 : w27.cell? ⟨gb111, 7, none⟩ = some (.slice A110_7 ((rd_T28 l1 x5_1).f4.f3).length c110_7) := (blk_cell BK111.out 7).trans rfl; have hcz29_8 : w27.cell? ⟨gb111, 8, none⟩ = some (.int .i64 ((rd_T28 l1 x5_1).f5.f0)) := (blk_cell BK111.out 8).trans rfl; have hcz29_9 : w27.cell? ⟨gb111, 9, none⟩ = some (.int .i64 ((rd_T28 l1 x5_1).f5.f1)) := (blk_cell BK111.out 9).trans rfl; have hcz29_10 : w27.cell? ⟨gb111, 10, none⟩ = some (.string ((rd_T28 l1 x5_1).f5.f2)) := (blk_cell BK111.out 10).trans rfl; have hcz29_11 : w27.cell? ⟨gb111, 11, none⟩ = some (.slice A110_11 ((rd_T28 l1 x5_1).f5.f3).length c110_11) := (blk_cell BK111.out 11).trans rfl; have hfz29_0 := blk_frozen BK111.out 0; have hfz29_1 := blk_frozen BK111.out 1; have hfz29_2 := blk_frozen BK111.out 2; have hfz29_3 := blk_frozen BK111.out 3; have hfz29_4 := blk_frozen BK111.out 4; have hfz29_5 := blk_frozen BK111.out 5; have hfz29_6 := blk_frozen BK111.out 6; have hfz29_7 := blk_frozen BK111.out 7; have hfz29_8 := blk_frozen BK111.out 8; have hfz29_9 := blk_frozen BK111.out 9; have hfz29_10 := blk_frozen BK111.out 10; have hfz29_11 := blk_frozen BK111.out 11) | (go_at_call 42; (with_reducible refine (kindlingref05_SameType.calls k1 ((rd_T28 l0 x5_1).f5.f0) ((rd_T28 l0 x5_1).f5.f1) ((rd_T28 l0 x5_1).f5.f2) _ _ ((rd_T28 l0 x5_1).f5.f3) ((rd_T28 l1 x5_1).f5.f0) ((rd_T28 l1 x5_1).f5.f1) ((rd_T28 l1 x5_1).f5.f2) _ _ ((rd_T28 l1 x5_1).f5.f3) true _ ?side1 ?side2 ?side3 ?side4 A19.out).mono ?_); (case side1 => repeat (first | exact (Kd.C_below HR108_11.out HB.out) | (with_reducible refine Kd.C_alloc ?_ _) | (with_reducible refine Kd.C_drewN ?_ _) | (with_reducible refine Kd.C_drew ?_))); (case side2 => exact HC108_11.out); (case side3 => repeat (first | exact (Kd.C_below HR110_11.out HB.out) | (with_reducible refine Kd.C_alloc ?_ _) | (with_reducible refine Kd.C_drewN ?_ _) | (with_reducible refine Kd.C_drew ?_))); (case side4 => exact HC110_11.out); rintro e w30 ⟨rfl, hb⟩; have n0_ := Aside0.mk (blk_below (g := gb109) (o := .cells #[.string ((rd_T28 l0 x5_1).f0), .int .i64 ((rd_T28 l0 x5_1).f1), .bool ((rd_T28 l0 x5_1).f2), .int .i64 ((rd_T28 l0 x5_1).f3), .int .i64 ((rd_T28 l0 x5_1).f4.f0), .int .i64 ((rd_T28 l0 x5_1).f4.f1), .string ((rd_T28 l0 x5_1).f4.f2), .slice A108_7 ((rd_T28 l0 x5_1).f4.f3).length c108_7, .int .i64 ((rd_T28 l0 x5_1).f5.f0), .int .i64 ((rd_T28 l0 x5_1).f5.f1), .string ((rd_T28 l0 x5_1).f5.f2), .slice A108_11 ((rd_T28 l0 x5_1).f5.f3).length c108_11] 28 (0, 0)) (by (with_reducible repeat (first | refine blk_drewN ?_ _ | refine blk_drew ?_ | refine blk_alloc ?_ _)); exact BK109.out) hb); have n1_ := Aside0.mk (blk_below (g := gb111) (o := .cells #[.string ((rd_T28 l1 x5_1).f0), .int .i64 ((rd_T28 l1 x5_1).f1), .bool ((rd_T28 l1 x5_1).f2), .int .i64 ((rd_T28 l1 x5_1).f3), .int .i64 ((rd_T28 l1 x5_1).f4.f0), .int .i64 ((rd_T28 l1 x5_1).f4.f1), .string ((rd_T28 l1 x5_1).f4.f2), .slice A110_7 ((rd_T28 l1 x5_1).f4.f3).length c110_7, .int .i64 ((rd_T28 l1 x5_1).f5.f0), .int .i64 ((rd_T28 l1 x5_1).f5.f1), .string ((rd_T28 l1 x5_1).f5.f2), .slice A110_11 ((rd_T28 l1 x5_1).f5.f3).length c110_11] 28 (0, 0)) (by (with_reducible repeat (first | refine blk_drewN ?_ _ | refine blk_drew ?_ | refine blk_alloc ?_ _)); exact BK111.out) hb); have n2_ := Aside0.mk (below_step (by repeat (first | (with_reducible first | exact HB.out | apply below_alloc | apply pw_below_drewN | apply below_drew1 | refine below_set ?_ GE109.out | refine below_set ?_ GE111.out) | exact HB.out)) hb); clear BK109; clear BK111; clear HB; have BK109 := n0_; have BK111 := n1_; have HB := n2_; clear n0_ n1_ n2_; (try clear hb); (try clear hb2); (try clear hk); (try clear hi)))
                          go_roundg k1
                          case measure => have := HK1.out; omega
                          case rel => exact ⟨(wrap64 (x5_1 + 1)), (by first | rfl | (simp; done) | (simp [*]; done)), H', ⟨by have := HK1.out; omega⟩, ⟨by repeat (first | (with_reducible first | exact HB.out | apply below_alloc | apply pw_below_drewN | apply below_drew1 | refine below_set ?_ GE109.out | refine below_set ?_ GE111.out) | exact HB.out)⟩⟩
                        · replace c20 := Bool.eq_false_iff.mpr c20
                          subst c20
                          have H1 : (some false) = some r := by rw [if_neg (show ¬ (false = true) by decide)] at H; exact H
                          clear H
                          have H := H1
                          clear H1
                          exact absurd (Option.some.inj H) (by rw [hr]; decide)
                      · replace c18 := Bool.eq_false_iff.mpr c18
                        subst c18
                        have H1 : (some false) = some r := by rw [if_neg (show ¬ (false = true) by decide)] at H; exact H
                        clear H
                        have H := H1
                        clear H1
                        exact absurd (Option.some.inj H) (by rw [hr]; decide)
                    · rw [if_neg c16] at H
                      have c16b0 : (((rd_T28 l0 x5_1).f3) == ((rd_T28 l1 x5_1).f3)) = false := beq_eq_false_iff_ne.mpr c16
                      have c16b1 : (((rd_T28 l0 x5_1).f3) != ((rd_T28 l1 x5_1).f3)) = true := bne_iff_ne.mpr c16
                      exact absurd (Option.some.inj H) (by rw [hr]; decide)
                · rw [if_neg c8] at H
                  have c8b0 : (((rd_T28 l0 x5_1).f1) == ((rd_T28 l1 x5_1).f1)) = false := beq_eq_false_iff_ne.mpr c8
                  have c8b1 : (((rd_T28 l0 x5_1).f1) != ((rd_T28 l1 x5_1).f1)) = true := bne_iff_ne.mpr c8
                  exact absurd (Option.some.inj H) (by rw [hr]; decide)
              · rw [if_neg c7] at H
                have c7b0 : (((rd_T28 l0 x5_1).f0).toList == ((rd_T28 l1 x5_1).f0).toList) = false := beq_eq_false_iff_ne.mpr c7
                have c7b1 : (((rd_T28 l0 x5_1).f0).toList != ((rd_T28 l1 x5_1).f0).toList) = true := bne_iff_ne.mpr c7
                exact absurd (Option.some.inj H) (by rw [hr]; decide)
            · rw [if_neg c6] at H
              exact absurd H (by simp)
          · rw [if_neg c5] at H
            exact absurd H (by simp)
        · rw [if_neg c4] at H
          have c4b0 : decide (x5_1 < (l0.length : Int)) = false := decide_eq_false c4
          clear c4
          obtain rfl := Option.some.inj H
          go_wp2
          go_ret
          exact ⟨by first | rfl | (simp [errW_none, errW_some] <;> rfl) | (simp [*, errW_none, errW_some] <;> rfl), by repeat (first | (with_reducible first | exact HB.out | apply below_alloc | apply pw_below_drewN | apply below_drew1) | exact HB.out)⟩
  · rw [if_neg c3] at H
    have c3b0 : ((l0.length : Int) == (l1.length : Int)) = false := beq_eq_false_iff_ne.mpr c3
    have c3b1 : ((l0.length : Int) != (l1.length : Int)) = true := bne_iff_ne.mpr c3
    have c3b2 : (l0.length == l1.length) = false := by first | simpa using c3 | (simp at c3 ⊢; omega)
    exact absurd (Option.some.inj H) (by rw [hr]; decide)
end Go.Proofs.Ytdhfnfoimbijmaa.Pa
