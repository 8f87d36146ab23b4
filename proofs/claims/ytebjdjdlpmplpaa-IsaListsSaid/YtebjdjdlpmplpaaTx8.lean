-- PRINTED by print.py (a twelfth state) out of the translation. Not trusted: Lean checks it.
import Derived.Test.YtebjdjdlpmplpaaTx0
import Derived.Test.YtebjdjdlpmplpaaTx4
import Derived.Test.YtebjdjdlpmplpaaTx6
import Derived.Test.YtebjdjdlpmplpaaTx7
namespace Go.Proofs.Ytebjdjdlpmplpaa.Tx
open Go.RowKit Go.Proofs.YtebjdjdlpmplpaaW.PrintWords Go.Proofs.YtebjdjdlpmplpaaW.PrintLast
set_option linter.unusedVariables false
set_option linter.unusedSimpArgs false

/-! ### kindlingref03_Parse: function 32 -/
mutual
def kindlingref03_Parse.l0 : Nat → ByteArray → List ByteArray → ByteArray → Int → Option (Int × Int × Int × Int × Int × Int)
  | 0, _, _, _, _ => none
  | k + 1, x0, x4, x5, x6 => if x6 < (x0.size : Int) then (if 0 ≤ x6 then (if (bt x0 x6) = 32 then (if x4.length < 8796093022208 then (if 0 > 30 then (some (0, 0, 0, 0, 0, 32)) else (kindlingref03_Parse.l0 k x0 (x4 ++ [x5]) (⟨#[]⟩ : ByteArray) (wrap64 (x6 + 1)))) else (none)) else ((some (([bt x0 x6] : List Int) : List Int)).bind fun y172 => (if x5.size + (strOfNums y172).size ≤ 9223372036854775807 then (if ((x5 ++ (strOfNums y172)).size : Int) > 30 then (some (0, 0, 0, 0, 0, 32)) else (kindlingref03_Parse.l0 k x0 x4 (x5 ++ (strOfNums y172)) (wrap64 (x6 + 1)))) else (none)))) else (none)) else (if x4.length < 8796093022208 then ((kindlingref03_Table.f).bind fun t178 => (kindlingref03_Parse.l1 k x0 (x4 ++ [x5]) t178 1)) else (none))
def kindlingref03_Parse.l1 : Nat → ByteArray → List ByteArray → List (S23) → Int → Option (Int × Int × Int × Int × Int × Int)
  | 0, _, _, _, _ => none
  | k + 1, x0, x4, x7, x8 => if x8 < (x7.length : Int) then (if 0 ≤ x8 then (if 0 < (x4.length : Int) then (if ((rd_T23 x7 x8).f0).toList = (rdOf ByteArray.empty x4 0).toList then (kindlingref03_Parse.j2 k x0 x4 x7 x8 ((x4.length : Int) != (wrap64 ((((rd_T23 x7 x8).f1).size : Int) + 1)))) else (kindlingref03_Parse.j2 k x0 x4 x7 x8 true)) else (none)) else (none)) else (some (0, 0, 0, 0, 0, 32))
def kindlingref03_Parse.j2 : Nat → ByteArray → List ByteArray → List (S23) → Int → Bool → Option (Int × Int × Int × Int × Int × Int)
  | 0, _, _, _, _, _ => none
  | k + 1, x0, x4, x7, x8, x70 => if x70 = true then (kindlingref03_Parse.l1 k x0 x4 x7 (wrap64 (x8 + 1))) else (kindlingref03_Parse.l2 k x0 x4 x7 x8 1 x8 0 0 0 0)
def kindlingref03_Parse.l2 : Nat → ByteArray → List ByteArray → List (S23) → Int → Int → Int → Int → Int → Int → Int → Option (Int × Int × Int × Int × Int × Int)
  | 0, _, _, _, _, _, _, _, _, _, _ => none
  | k + 1, x0, x4, x7, x8, x10, x185000, x185001, x185002, x185003, x185004 => if x10 < (x4.length : Int) then (if 0 ≤ x10 then (if ((rdOf ByteArray.empty x4 x10).size : Int) > 0 then (if 0 < ((rdOf ByteArray.empty x4 x10).size : Int) then (kindlingref03_Parse.j4 k x0 x4 x7 x8 x10 (rdOf ByteArray.empty x4 x10) ((bt (rdOf ByteArray.empty x4 x10) 0) == 114) x185000 x185001 x185002 x185003 x185004) else (none)) else (kindlingref03_Parse.j4 k x0 x4 x7 x8 x10 (rdOf ByteArray.empty x4 x10) false x185000 x185001 x185002 x185003 x185004)) else (none)) else ((kindlingref03_Text.f k x185000 x185001 x185002 x185003 x185004).bind fun t185 => (if t185.toList = x0.toList then (some (x185000, x185001, x185002, x185003, x185004, 0)) else (kindlingref03_Parse.l1 k x0 x4 x7 (wrap64 (x8 + 1)))))
def kindlingref03_Parse.j4 : Nat → ByteArray → List ByteArray → List (S23) → Int → Int → ByteArray → Bool → Int → Int → Int → Int → Int → Option (Int × Int × Int × Int × Int × Int)
  | 0, _, _, _, _, _, _, _, _, _, _, _, _ => none
  | k + 1, x0, x4, x7, x8, x10, x11, x90, x185000, x185001, x185002, x185003, x185004 => if x90 = true then (if 1 ≤ (x11.size : Int) then (kindlingref03_Parse.j5 k x0 x4 x7 x8 x10 (x11.extract 1 x11.size) x185000 x185001 x185002 x185003 x185004) else (none)) else (kindlingref03_Parse.j5 k x0 x4 x7 x8 x10 x11 x185000 x185001 x185002 x185003 x185004)
def kindlingref03_Parse.j5 : Nat → ByteArray → List ByteArray → List (S23) → Int → Int → ByteArray → Int → Int → Int → Int → Int → Option (Int × Int × Int × Int × Int × Int)
  | 0, _, _, _, _, _, _, _, _, _, _, _ => none
  | k + 1, x0, x4, x7, x8, x10, x11, x185000, x185001, x185002, x185003, x185004 => (kindlingref01_Parse.f k x11).bind fun bt187 => (if 0 ≤ x8 then (if x8 < (x7.length : Int) then (if 0 ≤ (wrap64 (x10 - 1)) then (if (wrap64 (x10 - 1)) < (((rd_T23 x7 x8).f1).size : Int) then (if (bt ((rd_T23 x7 x8).f1) (wrap64 (x10 - 1))) = 97 then (kindlingref03_Parse.l2 k x0 x4 x7 x8 (wrap64 (x10 + 1)) x185000 bt187.1 x185002 x185003 x185004) else (if (bt ((rd_T23 x7 x8).f1) (wrap64 (x10 - 1))) = 98 then (kindlingref03_Parse.l2 k x0 x4 x7 x8 (wrap64 (x10 + 1)) x185000 x185001 bt187.1 x185003 x185004) else (if (bt ((rd_T23 x7 x8).f1) (wrap64 (x10 - 1))) = 99 then (kindlingref03_Parse.l2 k x0 x4 x7 x8 (wrap64 (x10 + 1)) x185000 x185001 x185002 bt187.1 x185004) else (kindlingref03_Parse.l2 k x0 x4 x7 x8 (wrap64 (x10 + 1)) x185000 x185001 x185002 x185003 bt187.1)))) else (none)) else (none)) else (none)) else (none))
end
def kindlingref03_Parse.f (k : Nat) (a0 : ByteArray) : Option (Int × Int × Int × Int × Int × Int) := kindlingref03_Parse.l0 k a0 ([] : List ByteArray) (⟨#[]⟩ : ByteArray) 0
theorem kindlingref03_Parse.mono_l : ∀ k, (∀ y0 y1 y2 y3, LeO (kindlingref03_Parse.l0 k y0 y1 y2 y3) (kindlingref03_Parse.l0 (k + 1) y0 y1 y2 y3)) ∧ (∀ y0 y1 y2 y3, LeO (kindlingref03_Parse.l1 k y0 y1 y2 y3) (kindlingref03_Parse.l1 (k + 1) y0 y1 y2 y3)) ∧ (∀ y0 y1 y2 y3 y4, LeO (kindlingref03_Parse.j2 k y0 y1 y2 y3 y4) (kindlingref03_Parse.j2 (k + 1) y0 y1 y2 y3 y4)) ∧ (∀ y0 y1 y2 y3 y4 y5 y6 y7 y8 y9, LeO (kindlingref03_Parse.l2 k y0 y1 y2 y3 y4 y5 y6 y7 y8 y9) (kindlingref03_Parse.l2 (k + 1) y0 y1 y2 y3 y4 y5 y6 y7 y8 y9)) ∧ (∀ y0 y1 y2 y3 y4 y5 y6 y7 y8 y9 y10 y11, LeO (kindlingref03_Parse.j4 k y0 y1 y2 y3 y4 y5 y6 y7 y8 y9 y10 y11) (kindlingref03_Parse.j4 (k + 1) y0 y1 y2 y3 y4 y5 y6 y7 y8 y9 y10 y11)) ∧ (∀ y0 y1 y2 y3 y4 y5 y6 y7 y8 y9 y10, LeO (kindlingref03_Parse.j5 k y0 y1 y2 y3 y4 y5 y6 y7 y8 y9 y10) (kindlingref03_Parse.j5 (k + 1) y0 y1 y2 y3 y4 y5 y6 y7 y8 y9 y10))
  | 0 => ⟨fun _ _ _ _ r h => by simp [kindlingref03_Parse.l0] at h, fun _ _ _ _ r h => by simp [kindlingref03_Parse.l1] at h, fun _ _ _ _ _ r h => by simp [kindlingref03_Parse.j2] at h, fun _ _ _ _ _ _ _ _ _ _ r h => by simp [kindlingref03_Parse.l2] at h, fun _ _ _ _ _ _ _ _ _ _ _ _ r h => by simp [kindlingref03_Parse.j4] at h, fun _ _ _ _ _ _ _ _ _ _ _ r h => by simp [kindlingref03_Parse.j5] at h⟩
  | k + 1 => by
    obtain ⟨ih0, ih1, ih2, ih3, ih4, ih5⟩ := kindlingref03_Parse.mono_l k
    refine ⟨?_, ?_, ?_, ?_, ?_, ?_⟩
    · intro y0 y1 y2 y3
      unfold kindlingref03_Parse.l0
      repeat' first
      | (with_reducible exact ih0 _ _ _ _)
      | (with_reducible exact ih1 _ _ _ _)
      | (with_reducible exact ih2 _ _ _ _ _)
      | (with_reducible exact ih3 _ _ _ _ _ _ _ _ _ _)
      | (with_reducible exact ih4 _ _ _ _ _ _ _ _ _ _ _ _)
      | (with_reducible exact ih5 _ _ _ _ _ _ _ _ _ _ _)
      | (with_reducible exact kindlingref01_Parse.mono _ _)
      | (with_reducible exact kindlingref03_Text.mono _ _ _ _ _ _)
      | (with_reducible exact LeO.refl _)
      | (with_reducible exact LeO.none _)
      | (with_reducible refine LeO.ite ?_ ?_)
      | (with_reducible refine LeO.bind ?_ (fun _ => ?_))
      | exact ih0 _ _ _ _
      | exact ih1 _ _ _ _
      | exact ih2 _ _ _ _ _
      | exact ih3 _ _ _ _ _ _ _ _ _ _
      | exact ih4 _ _ _ _ _ _ _ _ _ _ _ _
      | exact ih5 _ _ _ _ _ _ _ _ _ _ _
      | exact kindlingref01_Parse.mono _ _
      | exact kindlingref03_Text.mono _ _ _ _ _ _
      | exact LeO.none _
      | refine LeO.ite ?_ ?_
      | refine LeO.bind ?_ (fun _ => ?_)
    · intro y0 y1 y2 y3
      unfold kindlingref03_Parse.l1
      repeat' first
      | (with_reducible exact ih0 _ _ _ _)
      | (with_reducible exact ih1 _ _ _ _)
      | (with_reducible exact ih2 _ _ _ _ _)
      | (with_reducible exact ih3 _ _ _ _ _ _ _ _ _ _)
      | (with_reducible exact ih4 _ _ _ _ _ _ _ _ _ _ _ _)
      | (with_reducible exact ih5 _ _ _ _ _ _ _ _ _ _ _)
      | (with_reducible exact kindlingref01_Parse.mono _ _)
      | (with_reducible exact kindlingref03_Text.mono _ _ _ _ _ _)
      | (with_reducible exact LeO.refl _)
      | (with_reducible exact LeO.none _)
      | (with_reducible refine LeO.ite ?_ ?_)
      | (with_reducible refine LeO.bind ?_ (fun _ => ?_))
      | exact ih0 _ _ _ _
      | exact ih1 _ _ _ _
      | exact ih2 _ _ _ _ _
      | exact ih3 _ _ _ _ _ _ _ _ _ _
      | exact ih4 _ _ _ _ _ _ _ _ _ _ _ _
      | exact ih5 _ _ _ _ _ _ _ _ _ _ _
      | exact kindlingref01_Parse.mono _ _
      | exact kindlingref03_Text.mono _ _ _ _ _ _
      | exact LeO.none _
      | refine LeO.ite ?_ ?_
      | refine LeO.bind ?_ (fun _ => ?_)
    · intro y0 y1 y2 y3 y4
      unfold kindlingref03_Parse.j2
      repeat' first
      | (with_reducible exact ih0 _ _ _ _)
      | (with_reducible exact ih1 _ _ _ _)
      | (with_reducible exact ih2 _ _ _ _ _)
      | (with_reducible exact ih3 _ _ _ _ _ _ _ _ _ _)
      | (with_reducible exact ih4 _ _ _ _ _ _ _ _ _ _ _ _)
      | (with_reducible exact ih5 _ _ _ _ _ _ _ _ _ _ _)
      | (with_reducible exact kindlingref01_Parse.mono _ _)
      | (with_reducible exact kindlingref03_Text.mono _ _ _ _ _ _)
      | (with_reducible exact LeO.refl _)
      | (with_reducible exact LeO.none _)
      | (with_reducible refine LeO.ite ?_ ?_)
      | (with_reducible refine LeO.bind ?_ (fun _ => ?_))
      | exact ih0 _ _ _ _
      | exact ih1 _ _ _ _
      | exact ih2 _ _ _ _ _
      | exact ih3 _ _ _ _ _ _ _ _ _ _
      | exact ih4 _ _ _ _ _ _ _ _ _ _ _ _
      | exact ih5 _ _ _ _ _ _ _ _ _ _ _
      | exact kindlingref01_Parse.mono _ _
      | exact kindlingref03_Text.mono _ _ _ _ _ _
      | exact LeO.none _
      | refine LeO.ite ?_ ?_
      | refine LeO.bind ?_ (fun _ => ?_)
    · intro y0 y1 y2 y3 y4 y5 y6 y7 y8 y9
      unfold kindlingref03_Parse.l2
      repeat' first
      | (with_reducible exact ih0 _ _ _ _)
      | (with_reducible exact ih1 _ _ _ _)
      | (with_reducible exact ih2 _ _ _ _ _)
      | (with_reducible exact ih3 _ _ _ _ _ _ _ _ _ _)
      | (with_reducible exact ih4 _ _ _ _ _ _ _ _ _ _ _ _)
      | (with_reducible exact ih5 _ _ _ _ _ _ _ _ _ _ _)
      | (with_reducible exact kindlingref01_Parse.mono _ _)
      | (with_reducible exact kindlingref03_Text.mono _ _ _ _ _ _)
      | (with_reducible exact LeO.refl _)
      | (with_reducible exact LeO.none _)
      | (with_reducible refine LeO.ite ?_ ?_)
      | (with_reducible refine LeO.bind ?_ (fun _ => ?_))
      | exact ih0 _ _ _ _
      | exact ih1 _ _ _ _
      | exact ih2 _ _ _ _ _
      | exact ih3 _ _ _ _ _ _ _ _ _ _
      | exact ih4 _ _ _ _ _ _ _ _ _ _ _ _
      | exact ih5 _ _ _ _ _ _ _ _ _ _ _
      | exact kindlingref01_Parse.mono _ _
      | exact kindlingref03_Text.mono _ _ _ _ _ _
      | exact LeO.none _
      | refine LeO.ite ?_ ?_
      | refine LeO.bind ?_ (fun _ => ?_)
    · intro y0 y1 y2 y3 y4 y5 y6 y7 y8 y9 y10 y11
      unfold kindlingref03_Parse.j4
      repeat' first
      | (with_reducible exact ih0 _ _ _ _)
      | (with_reducible exact ih1 _ _ _ _)
      | (with_reducible exact ih2 _ _ _ _ _)
      | (with_reducible exact ih3 _ _ _ _ _ _ _ _ _ _)
      | (with_reducible exact ih4 _ _ _ _ _ _ _ _ _ _ _ _)
      | (with_reducible exact ih5 _ _ _ _ _ _ _ _ _ _ _)
      | (with_reducible exact kindlingref01_Parse.mono _ _)
      | (with_reducible exact kindlingref03_Text.mono _ _ _ _ _ _)
      | (with_reducible exact LeO.refl _)
      | (with_reducible exact LeO.none _)
      | (with_reducible refine LeO.ite ?_ ?_)
      | (with_reducible refine LeO.bind ?_ (fun _ => ?_))
      | exact ih0 _ _ _ _
      | exact ih1 _ _ _ _
      | exact ih2 _ _ _ _ _
      | exact ih3 _ _ _ _ _ _ _ _ _ _
      | exact ih4 _ _ _ _ _ _ _ _ _ _ _ _
      | exact ih5 _ _ _ _ _ _ _ _ _ _ _
      | exact kindlingref01_Parse.mono _ _
      | exact kindlingref03_Text.mono _ _ _ _ _ _
      | exact LeO.none _
      | refine LeO.ite ?_ ?_
      | refine LeO.bind ?_ (fun _ => ?_)
    · intro y0 y1 y2 y3 y4 y5 y6 y7 y8 y9 y10
      unfold kindlingref03_Parse.j5
      repeat' first
      | (with_reducible exact ih0 _ _ _ _)
      | (with_reducible exact ih1 _ _ _ _)
      | (with_reducible exact ih2 _ _ _ _ _)
      | (with_reducible exact ih3 _ _ _ _ _ _ _ _ _ _)
      | (with_reducible exact ih4 _ _ _ _ _ _ _ _ _ _ _ _)
      | (with_reducible exact ih5 _ _ _ _ _ _ _ _ _ _ _)
      | (with_reducible exact kindlingref01_Parse.mono _ _)
      | (with_reducible exact kindlingref03_Text.mono _ _ _ _ _ _)
      | (with_reducible exact LeO.refl _)
      | (with_reducible exact LeO.none _)
      | (with_reducible refine LeO.ite ?_ ?_)
      | (with_reducible refine LeO.bind ?_ (fun _ => ?_))
      | exact ih0 _ _ _ _
      | exact ih1 _ _ _ _
      | exact ih2 _ _ _ _ _
      | exact ih3 _ _ _ _ _ _ _ _ _ _
      | exact ih4 _ _ _ _ _ _ _ _ _ _ _ _
      | exact ih5 _ _ _ _ _ _ _ _ _ _ _
      | exact kindlingref01_Parse.mono _ _
      | exact kindlingref03_Text.mono _ _ _ _ _ _
      | exact LeO.none _
      | refine LeO.ite ?_ ?_
      | refine LeO.bind ?_ (fun _ => ?_)
theorem kindlingref03_Parse.mono : ∀ a0 k, LeO (kindlingref03_Parse.f k a0) (kindlingref03_Parse.f (k + 1) a0) := by
  intro a0 k
  obtain ⟨ih0, ih1, ih2, ih3, ih4, ih5⟩ := kindlingref03_Parse.mono_l k
  unfold kindlingref03_Parse.f
  repeat' first
      | (with_reducible exact ih0 _ _ _ _)
      | (with_reducible exact ih1 _ _ _ _)
      | (with_reducible exact ih2 _ _ _ _ _)
      | (with_reducible exact ih3 _ _ _ _ _ _ _ _ _ _)
      | (with_reducible exact ih4 _ _ _ _ _ _ _ _ _ _ _ _)
      | (with_reducible exact ih5 _ _ _ _ _ _ _ _ _ _ _)
      | (with_reducible exact kindlingref01_Parse.mono _ _)
      | (with_reducible exact kindlingref03_Text.mono _ _ _ _ _ _)
      | (with_reducible exact LeO.refl _)
      | (with_reducible exact LeO.none _)
      | (with_reducible refine LeO.ite ?_ ?_)
      | (with_reducible refine LeO.bind ?_ (fun _ => ?_))
      | exact ih0 _ _ _ _
      | exact ih1 _ _ _ _
      | exact ih2 _ _ _ _ _
      | exact ih3 _ _ _ _ _ _ _ _ _ _
      | exact ih4 _ _ _ _ _ _ _ _ _ _ _ _
      | exact ih5 _ _ _ _ _ _ _ _ _ _ _
      | exact kindlingref01_Parse.mono _ _
      | exact kindlingref03_Text.mono _ _ _ _ _ _
      | exact LeO.none _
      | refine LeO.ite ?_ ?_
      | refine LeO.bind ?_ (fun _ => ?_)
set_option maxHeartbeats 8000000 in
set_option maxRecDepth 100000 in
theorem kindlingref03_Parse.calls (k : Nat) (a0 : ByteArray) (r1 : Int) (r2 : Int) (r3 : Int) (r4 : Int) (r5 : Int) (r6 : Int) (w : World) (h : kindlingref03_Parse.f k a0 = some (r1, r2, r3, r4, r5, r6)) :
    Calls Try.prog 32 #[.string a0] w fun e w' => e = .returned (.tuple #[.agg #[.int .i64 r1, .int .i64 r2, .int .i64 r3, .int .i64 r4, .int .i64 r5], .int .i64 r6]) ∧ Below w.heap.size w w' := by
  have hu30 := Try.underlying30
  have HB := Aside0.mk (Below.refl w.heap.size w)
  have H : (kindlingref03_Parse.l0 k a0 ([] : List ByteArray) (⟨#[]⟩ : ByteArray) 0) = some (r1, r2, r3, r4, r5, r6) := h
  clear h
  have H' := Aside0.mk H
  clear H
  go_enter Try.func32, Try.ntmps32
  go_wp2_with (first | ((with_reducible refine gate_dst (N := 2) rfl ?_); (try (refine gate_guard (by rfl) ?_; dsimp only)); refine box_event ?hg (N := 2) ?hd (cs := #[.int .i64 0, .int .i64 0, .int .i64 0, .int .i64 0, .int .i64 0]) (t := 30) ?hr ?_; (case hd => rfl); (case hg => rfl); (case hr => first | (go_simp; done) | (go_simp; rfl)); intro gb168 hg w2 hbox hb; have n0_ := Aside0.mk (below_step (by repeat (first | (with_reducible first | exact HB.out | apply below_alloc | apply pw_below_drewN | apply below_drew1) | exact HB.out)) hb); have n1_ := Aside0.mk (hbox); have n2_ := Aside0.mk ((by rw [hg]; exact (below_size (by repeat (first | (with_reducible first | exact HB.out | apply below_alloc | apply pw_below_drewN | apply below_drew1) | exact HB.out))) : w.heap.size ≤ gb168)); have n3_ := Aside0.mk ((by rw [hg]; exact (below_size (by repeat (first | (with_reducible first | exact HB.out | apply below_alloc | apply pw_below_drewN | apply below_drew1) | exact HB.out))) : w.heap.size ≤ gb168)); clear HB; have HB := n0_; have BK168 := n1_; have GW168 := n2_; have GE168 := n3_; clear n0_ n1_ n2_ n3_; clear hb hbox hg))
  repeat (go_quiet (first | ((with_reducible refine gate_dst (N := 2) rfl ?_); (try (refine gate_guard (by rfl) ?_; dsimp only)); refine box_event ?hg (N := 2) ?hd (cs := #[.int .i64 0, .int .i64 0, .int .i64 0, .int .i64 0, .int .i64 0]) (t := 30) ?hr ?_; (case hd => rfl); (case hg => rfl); (case hr => first | (go_simp; done) | (go_simp; rfl)); intro gb168 hg w2 hbox hb; have n0_ := Aside0.mk (below_step (by repeat (first | (with_reducible first | exact HB.out | apply below_alloc | apply pw_below_drewN | apply below_drew1) | exact HB.out)) hb); have n1_ := Aside0.mk (hbox); have n2_ := Aside0.mk ((by rw [hg]; exact (below_size (by repeat (first | (with_reducible first | exact HB.out | apply below_alloc | apply pw_below_drewN | apply below_drew1) | exact HB.out))) : w.heap.size ≤ gb168)); have n3_ := Aside0.mk ((by rw [hg]; exact (below_size (by repeat (first | (with_reducible first | exact HB.out | apply below_alloc | apply pw_below_drewN | apply below_drew1) | exact HB.out))) : w.heap.size ≤ gb168)); clear HB; have HB := n0_; have BK168 := n1_; have GW168 := n2_; have GE168 := n3_; clear n0_ n1_ n2_ n3_; clear hb hbox hg)); try go_wp2_with (first | ((with_reducible refine gate_dst (N := 2) rfl ?_); (try (refine gate_guard (by rfl) ?_; dsimp only)); refine box_event ?hg (N := 2) ?hd (cs := #[.int .i64 0, .int .i64 0, .int .i64 0, .int .i64 0, .int .i64 0]) (t := 30) ?hr ?_; (case hd => rfl); (case hg => rfl); (case hr => first | (go_simp; done) | (go_simp; rfl)); intro gb168 hg w2 hbox hb; have n0_ := Aside0.mk (below_step (by repeat (first | (with_reducible first | exact HB.out | apply below_alloc | apply pw_below_drewN | apply below_drew1) | exact HB.out)) hb); have n1_ := Aside0.mk (hbox); have n2_ := Aside0.mk ((by rw [hg]; exact (below_size (by repeat (first | (with_reducible first | exact HB.out | apply below_alloc | apply pw_below_drewN | apply below_drew1) | exact HB.out))) : w.heap.size ≤ gb168)); have n3_ := Aside0.mk ((by rw [hg]; exact (below_size (by repeat (first | (with_reducible first | exact HB.out | apply below_alloc | apply pw_below_drewN | apply below_drew1) | exact HB.out))) : w.heap.size ≤ gb168)); clear HB; have HB := n0_; have BK168 := n1_; have GW168 := n2_; have GE168 := n3_; clear n0_ n1_ n2_ n3_; clear hb hbox hg)))
  go_loopg [4, 5, 6] k (fun kq v4 v5 v6 w' => ∃ (x4_1 : List ByteArray) (x5_1 : ByteArray) (x6_1 : Int) (x169000_1 : Int) (x169001_1 : Int) (x169002_1 : Int) (x169003_1 : Int) (x169004_1 : Int), v5 = .string x5_1 ∧ v6 = .int .i64 x6_1 ∧ Aside0 (kindlingref03_Parse.l0 kq a0 x4_1 x5_1 x6_1 = some (r1, r2, r3, r4, r5, r6)) ∧ Aside0 (kq ≤ k) ∧ Aside0 (Kd.R Kd.string 9 w' w.heap.size (fun _ => True) v4 x4_1) ∧ Aside0 (w'.heap[gb168]? = some (.cells #[.int .i64 x169000_1, .int .i64 x169001_1, .int .i64 x169002_1, .int .i64 x169003_1, .int .i64 x169004_1] 30 (0, 0))) ∧ Aside0 (Below w.heap.size w w'))
  case atStart => exact ⟨(([] : List ByteArray)), ((⟨#[]⟩ : ByteArray)), (0), (0), (0), (0), (0), (0), (by first | rfl | (simp; done) | (simp [*]; done)), (by first | rfl | (simp; done) | (simp [*]; done)), H', ⟨Nat.le_refl _⟩, ⟨by first | exact Kd.R_nil _ _ _ _ _ | exact Kd.N_nil _ _ _ _ _ | exact Kd.V_nil _ _ _ _ _ | exact Kd.Q_nil _ _ _ _ _ | exact Kd.S_nil _ _ _ _ _⟩, ⟨by (with_reducible repeat (first | refine blk_drewN ?_ _ | refine blk_drew ?_ | refine blk_alloc ?_ _)); exact BK168.out⟩, ⟨by repeat (first | (with_reducible first | exact HB.out | apply below_alloc | apply pw_below_drewN | apply below_drew1 | refine below_set ?_ GE168.out) | exact HB.out)⟩⟩
  case round =>
    clear H'
    try clear p2
    obtain ⟨x4_1, x5_1, x6_1, x169000_1, x169001_1, x169002_1, x169003_1, x169004_1, rfl, rfl, HA, HK1, HO_4, BK168, HB⟩ := hrel
    cases gk with
    | zero => exact absurd HA.out (by simp [kindlingref03_Parse.l0])
    | succ k1 =>
      have H := HA.out
      clear HA
      simp only [kindlingref03_Parse.l0] at H
      by_cases c3 : x6_1 < (a0.size : Int)
      · rw [if_pos c3] at H
        have c3b0 : decide (x6_1 < (a0.size : Int)) = true := decide_eq_true c3
        clear c3
        by_cases c4 : 0 ≤ x6_1
        · rw [if_pos c4] at H
          have c4b0 : decide (0 ≤ x6_1) = true := decide_eq_true c4
          clear c4
          by_cases c6 : (bt a0 x6_1) = 32
          · rw [if_pos c6] at H
            have c6b0 : ((bt a0 x6_1) == 32) = true := beq_iff_eq.mpr c6
            have c6b1 : ((bt a0 x6_1) != 32) = false := bne_eq_false_iff_eq.mpr c6
            clear c6
            by_cases c7 : x4_1.length < 8796093022208
            · rw [if_pos c7] at H
              have LMc7 := Aside0.mk c7
              clear c7
              obtain ⟨y169, hy169⟩ : ∃ y_ : List ByteArray, y_ = (x4_1 ++ [x5_1]) := ⟨_, rfl⟩
              replace H : (if 0 > 30 then (some (0, 0, 0, 0, 0, 32)) else (kindlingref03_Parse.l0 k1 a0 y169 (⟨#[]⟩ : ByteArray) (wrap64 (x6_1 + 1)))) = some (r1, r2, r3, r4, r5, r6) := by first | (rw [hy169]; with_reducible exact H) | (have H2_ := (Option.bind_some _ _).symm.trans H; rw [hy169]; with_reducible exact H2_) | (have H2_ := (Option.bind_some _ _).symm.trans H; with_reducible exact H2_) | with_reducible exact H | (rw [hy169]; exact H) | exact H
              have Ny169 := Aside0.mk hy169
              clear hy169
              by_cases c8 : 0 > 30
              · rw [if_pos c8] at H
                exact absurd c8 (by decide)
              · rw [if_neg c8] at H
                have c8b0 : decide (30 < 0) = false := decide_eq_false c8
                clear c8
                have H' := Aside0.mk H
                clear H
                have p5 : 0 ≤ (x6_1 : Int) := of_decide_eq_true (by first | (with_reducible assumption) | assumption)
                have q5 : x6_1 < (a0.size : Int) := of_decide_eq_true (by first | (with_reducible assumption) | assumption)
                have hx5 := bt_at a0 x6_1
                replace p5 := eq_true p5
                replace q5 := eq_true q5
                go_wp2_with (first | ((with_reducible refine gate_builtin (b := .append) (xs := #[.tmp 24, .tmp 26]) rfl ?_); (try (refine gate_guard (by rfl) ?_; dsimp only)); at_builtin; refine Kd.R_append Kd.string (w0 := w) w.heap.size rfl (.tmp 24) (.tmp 26) 43 9 (.string ⟨#[]⟩) 16 rfl Try.underlying43 info9 rfl (by decide) (by omega) u4 x4_1 x5_1 [.string x5_1] (fun _ => True) (fun _ => False) rfl rfl ?aP (fun _ hk => hk.elim) ?aF ?aO ?aB ?aS ?aL ?_; (case aP => exact rfl); (case aB => exact (by repeat (first | (with_reducible first | exact HB.out | apply below_alloc | apply pw_below_drewN | apply below_drew1 | refine below_set ?_ GE168.out) | exact HB.out))); (case aF => exact (fun _ _ => trivial)); (case aO => exact (by (with_reducible repeat (first | apply Kd.R_alloc | apply Kd.R_drewN | apply Kd.R_drew)); exact HO_4.out)); (case aS => exact (below_size (by repeat (first | (with_reducible first | exact HB.out | apply below_alloc | apply pw_below_drewN | apply below_drew1 | refine below_set ?_ GE168.out) | exact HB.out)))); (case aL => have := LMc7.out; omega); intro v170 w11 ho hb hg hat; rw [← Ny169.out] at ho; have n0_ := Aside0.mk (blk_grown (g := gb168) (o := .cells #[.int .i64 x169000_1, .int .i64 x169001_1, .int .i64 x169002_1, .int .i64 x169003_1, .int .i64 x169004_1] 30 (0, 0)) (by (with_reducible repeat (first | refine blk_drewN ?_ _ | refine blk_drew ?_ | refine blk_alloc ?_ _)); exact BK168.out) hg (Kd.R_ne HO_4.out BK168.out (by decide))); have n1_ := Aside0.mk (hb); have n2_ := Aside0.mk (ho); clear BK168; clear HB; clear HO_4; have BK168 := n0_; have HB := n1_; have HO171 := n2_; clear n0_ n1_ n2_; clear ho hb hg hat))
                repeat (go_quiet (first | ((with_reducible refine gate_builtin (b := .append) (xs := #[.tmp 24, .tmp 26]) rfl ?_); (try (refine gate_guard (by rfl) ?_; dsimp only)); at_builtin; refine Kd.R_append Kd.string (w0 := w) w.heap.size rfl (.tmp 24) (.tmp 26) 43 9 (.string ⟨#[]⟩) 16 rfl Try.underlying43 info9 rfl (by decide) (by omega) u4 x4_1 x5_1 [.string x5_1] (fun _ => True) (fun _ => False) rfl rfl ?aP (fun _ hk => hk.elim) ?aF ?aO ?aB ?aS ?aL ?_; (case aP => exact rfl); (case aB => exact (by repeat (first | (with_reducible first | exact HB.out | apply below_alloc | apply pw_below_drewN | apply below_drew1 | refine below_set ?_ GE168.out) | exact HB.out))); (case aF => exact (fun _ _ => trivial)); (case aO => exact (by (with_reducible repeat (first | apply Kd.R_alloc | apply Kd.R_drewN | apply Kd.R_drew)); exact HO_4.out)); (case aS => exact (below_size (by repeat (first | (with_reducible first | exact HB.out | apply below_alloc | apply pw_below_drewN | apply below_drew1 | refine below_set ?_ GE168.out) | exact HB.out)))); (case aL => have := LMc7.out; omega); intro v170 w11 ho hb hg hat; rw [← Ny169.out] at ho; have n0_ := Aside0.mk (blk_grown (g := gb168) (o := .cells #[.int .i64 x169000_1, .int .i64 x169001_1, .int .i64 x169002_1, .int .i64 x169003_1, .int .i64 x169004_1] 30 (0, 0)) (by (with_reducible repeat (first | refine blk_drewN ?_ _ | refine blk_drew ?_ | refine blk_alloc ?_ _)); exact BK168.out) hg (Kd.R_ne HO_4.out BK168.out (by decide))); have n1_ := Aside0.mk (hb); have n2_ := Aside0.mk (ho); clear BK168; clear HB; clear HO_4; have BK168 := n0_; have HB := n1_; have HO171 := n2_; clear n0_ n1_ n2_; clear ho hb hg hat)); try go_wp2_with (first | ((with_reducible refine gate_builtin (b := .append) (xs := #[.tmp 24, .tmp 26]) rfl ?_); (try (refine gate_guard (by rfl) ?_; dsimp only)); at_builtin; refine Kd.R_append Kd.string (w0 := w) w.heap.size rfl (.tmp 24) (.tmp 26) 43 9 (.string ⟨#[]⟩) 16 rfl Try.underlying43 info9 rfl (by decide) (by omega) u4 x4_1 x5_1 [.string x5_1] (fun _ => True) (fun _ => False) rfl rfl ?aP (fun _ hk => hk.elim) ?aF ?aO ?aB ?aS ?aL ?_; (case aP => exact rfl); (case aB => exact (by repeat (first | (with_reducible first | exact HB.out | apply below_alloc | apply pw_below_drewN | apply below_drew1 | refine below_set ?_ GE168.out) | exact HB.out))); (case aF => exact (fun _ _ => trivial)); (case aO => exact (by (with_reducible repeat (first | apply Kd.R_alloc | apply Kd.R_drewN | apply Kd.R_drew)); exact HO_4.out)); (case aS => exact (below_size (by repeat (first | (with_reducible first | exact HB.out | apply below_alloc | apply pw_below_drewN | apply below_drew1 | refine below_set ?_ GE168.out) | exact HB.out)))); (case aL => have := LMc7.out; omega); intro v170 w11 ho hb hg hat; rw [← Ny169.out] at ho; have n0_ := Aside0.mk (blk_grown (g := gb168) (o := .cells #[.int .i64 x169000_1, .int .i64 x169001_1, .int .i64 x169002_1, .int .i64 x169003_1, .int .i64 x169004_1] 30 (0, 0)) (by (with_reducible repeat (first | refine blk_drewN ?_ _ | refine blk_drew ?_ | refine blk_alloc ?_ _)); exact BK168.out) hg (Kd.R_ne HO_4.out BK168.out (by decide))); have n1_ := Aside0.mk (hb); have n2_ := Aside0.mk (ho); clear BK168; clear HB; clear HO_4; have BK168 := n0_; have HB := n1_; have HO171 := n2_; clear n0_ n1_ n2_; clear ho hb hg hat)))
                go_roundg k1
                case measure => have := HK1.out; omega
                case rel => exact ⟨(y169), ((⟨#[]⟩ : ByteArray)), (wrap64 (x6_1 + 1)), (x169000_1), (x169001_1), (x169002_1), (x169003_1), (x169004_1), (by first | rfl | (simp; done) | (simp [*]; done)), (by first | rfl | (simp; done) | (simp [*]; done)), H', ⟨by have := HK1.out; omega⟩, ⟨by (with_reducible repeat (first | apply Kd.R_alloc | apply Kd.R_drewN | apply Kd.R_drew)); exact HO171.out⟩, ⟨by (with_reducible repeat (first | refine blk_drewN ?_ _ | refine blk_drew ?_ | refine blk_alloc ?_ _)); exact BK168.out⟩, ⟨by repeat (first | (with_reducible first | exact HB.out | apply below_alloc | apply pw_below_drewN | apply below_drew1 | refine below_set ?_ GE168.out) | exact HB.out)⟩⟩
            · rw [if_neg c7] at H
              exact absurd H (by simp)
          · rw [if_neg c6] at H
            have c6b0 : ((bt a0 x6_1) == 32) = false := beq_eq_false_iff_ne.mpr c6
            have c6b1 : ((bt a0 x6_1) != 32) = true := bne_iff_ne.mpr c6
            obtain ⟨y172, hy172⟩ : ∃ y_ : List Int, y_ = (([bt a0 x6_1] : List Int)) := ⟨_, rfl⟩
            replace H : (if x5_1.size + (strOfNums y172).size ≤ 9223372036854775807 then (if ((x5_1 ++ (strOfNums y172)).size : Int) > 30 then (some (0, 0, 0, 0, 0, 32)) else (kindlingref03_Parse.l0 k1 a0 x4_1 (x5_1 ++ (strOfNums y172)) (wrap64 (x6_1 + 1)))) else (none)) = some (r1, r2, r3, r4, r5, r6) := by first | (rw [hy172]; with_reducible exact H) | (have H2_ := (Option.bind_some _ _).symm.trans H; rw [hy172]; with_reducible exact H2_) | (have H2_ := (Option.bind_some _ _).symm.trans H; with_reducible exact H2_) | with_reducible exact H | (rw [hy172]; exact H) | exact H
            have Ny172 := Aside0.mk hy172
            clear hy172
            by_cases c13 : x5_1.size + (strOfNums y172).size ≤ 9223372036854775807
            · rw [if_pos c13] at H
              have c13b0 := eq_true c13
              have c13b1 : decide (x5_1.size + (strOfNums y172).size ≤ 9223372036854775807) = true := decide_eq_true c13
              try have c13b2 : (9223372036854775807 < x5_1.size + (strOfNums y172).size) = False := eq_false (Nat.not_lt.2 c13)
              by_cases c14 : ((x5_1 ++ (strOfNums y172)).size : Int) > 30
              · rw [if_pos c14] at H
                have c14b0 : decide (30 < ((x5_1 ++ (strOfNums y172)).size : Int)) = true := decide_eq_true c14
                have c14b5 : decide (30 < (x5_1.size : Int) + ((strOfNums y172).size : Int)) = true := by have h_ := c14b0; simpa only [ByteArray.size_append, Int.natCast_add] using h_
                have c14b6 : ((x5_1.size : Int) + ((strOfNums y172).size : Int) ≤ 30) = False := by have h_ := c14b5; have h2_ := of_decide_eq_true h_; exact eq_false (by omega)
                have c14b1 : decide (30 < (x5_1 ++ (strOfNums y172)).size) = true := decide_eq_true (by omega)
                clear c14
                simp only [Option.some.injEq, Prod.mk.injEq] at H
                obtain ⟨rfl, rfl, rfl, rfl, rfl, rfl⟩ := H
                have p5 : 0 ≤ (x6_1 : Int) := of_decide_eq_true (by first | (with_reducible assumption) | assumption)
                have q5 : x6_1 < (a0.size : Int) := of_decide_eq_true (by first | (with_reducible assumption) | assumption)
                have hx5 := bt_at a0 x6_1
                replace p5 := eq_true p5
                replace q5 := eq_true q5
                have p12 : 0 ≤ (x6_1 : Int) := of_decide_eq_true (by first | (with_reducible assumption) | assumption)
                have q12 : x6_1 < (a0.size : Int) := of_decide_eq_true (by first | (with_reducible assumption) | assumption)
                have hx12 := bt_at a0 x6_1
                replace p12 := eq_true p12
                replace q12 := eq_true q12
                go_wp2_with (first | ((with_reducible refine gate_dst (N := 32) rfl ?_); (try (refine gate_guard (by rfl) ?_; dsimp only)); refine Kd.R_lit (Kd.int .u8) _ 5 ?hg (N := 32) ?hd (xs := ([bt a0 x6_1] : List Int)) (inner := [.int .u8 (bt a0 x6_1)]) (ok := fun _ => True) (okp := fun _ => True) ?hr ?hp (fun _ hk => hk) trivial (Below.refl _ _) (Nat.le_refl _) (by simp) ?_; (case hd => rfl); (case hg => rfl); (case hr => first | (go_simp; done) | (go_simp; rfl)); (case hp => exact (Reps.one (show Kd.M (Kd.int .u8) _ _ _ (bt a0 x6_1) [.int .u8 (bt a0 x6_1)] from rfl) (Reps.none _ _))); intro v173 w15 ho16 hb hg_ hnew_; clear hg_ hnew_; (first | rw [← Ny172.out] at ho16 | (simp only [Int.reduceToNat] at ho16; rw [← Ny172.out] at ho16)); have n0_ := Aside0.mk (Kd.R_below (by (with_reducible repeat (first | apply Kd.R_alloc | apply Kd.R_drewN | apply Kd.R_drew)); exact HO_4.out) hb); have n1_ := Aside0.mk (Kd.R_lower ho16 (below_size (by repeat (first | (with_reducible first | exact HB.out | apply below_alloc | apply pw_below_drewN | apply below_drew1 | refine below_set ?_ GE168.out) | exact HB.out)))); have n2_ := Aside0.mk (blk_below (g := gb168) (o := .cells #[.int .i64 x169000_1, .int .i64 x169001_1, .int .i64 x169002_1, .int .i64 x169003_1, .int .i64 x169004_1] 30 (0, 0)) (by (with_reducible repeat (first | refine blk_drewN ?_ _ | refine blk_drew ?_ | refine blk_alloc ?_ _)); exact BK168.out) hb); have n3_ := Aside0.mk (below_step (by repeat (first | (with_reducible first | exact HB.out | apply below_alloc | apply pw_below_drewN | apply below_drew1 | refine below_set ?_ GE168.out) | exact HB.out)) hb); clear HO_4; clear BK168; clear HB; have HO_4 := n0_; have HO174 := n1_; have BK168 := n2_; have HB := n3_; clear n0_ n1_ n2_ n3_; clear hb ho16; have hcv17 := own_string (P := Try.prog) Try.underlying74 Try.underlying5 Try.underlying9 (Kd.own_of_R HO174.out); have hcz18_0 : w15.cell? ⟨gb168, 0, none⟩ = some (.int .i64 x169000_1) := (blk_cell BK168.out 0).trans rfl; have hcz18_1 : w15.cell? ⟨gb168, 1, none⟩ = some (.int .i64 x169001_1) := (blk_cell BK168.out 1).trans rfl; have hcz18_2 : w15.cell? ⟨gb168, 2, none⟩ = some (.int .i64 x169002_1) := (blk_cell BK168.out 2).trans rfl; have hcz18_3 : w15.cell? ⟨gb168, 3, none⟩ = some (.int .i64 x169003_1) := (blk_cell BK168.out 3).trans rfl; have hcz18_4 : w15.cell? ⟨gb168, 4, none⟩ = some (.int .i64 x169004_1) := (blk_cell BK168.out 4).trans rfl; have hfz18_0 := blk_frozen BK168.out 0; have hfz18_1 := blk_frozen BK168.out 1; have hfz18_2 := blk_frozen BK168.out 2; have hfz18_3 := blk_frozen BK168.out 3; have hfz18_4 := blk_frozen BK168.out 4))
                repeat (go_quiet (first | ((with_reducible refine gate_dst (N := 32) rfl ?_); (try (refine gate_guard (by rfl) ?_; dsimp only)); refine Kd.R_lit (Kd.int .u8) _ 5 ?hg (N := 32) ?hd (xs := ([bt a0 x6_1] : List Int)) (inner := [.int .u8 (bt a0 x6_1)]) (ok := fun _ => True) (okp := fun _ => True) ?hr ?hp (fun _ hk => hk) trivial (Below.refl _ _) (Nat.le_refl _) (by simp) ?_; (case hd => rfl); (case hg => rfl); (case hr => first | (go_simp; done) | (go_simp; rfl)); (case hp => exact (Reps.one (show Kd.M (Kd.int .u8) _ _ _ (bt a0 x6_1) [.int .u8 (bt a0 x6_1)] from rfl) (Reps.none _ _))); intro v173 w15 ho16 hb hg_ hnew_; clear hg_ hnew_; (first | rw [← Ny172.out] at ho16 | (simp only [Int.reduceToNat] at ho16; rw [← Ny172.out] at ho16)); have n0_ := Aside0.mk (Kd.R_below (by (with_reducible repeat (first | apply Kd.R_alloc | apply Kd.R_drewN | apply Kd.R_drew)); exact HO_4.out) hb); have n1_ := Aside0.mk (Kd.R_lower ho16 (below_size (by repeat (first | (with_reducible first | exact HB.out | apply below_alloc | apply pw_below_drewN | apply below_drew1 | refine below_set ?_ GE168.out) | exact HB.out)))); have n2_ := Aside0.mk (blk_below (g := gb168) (o := .cells #[.int .i64 x169000_1, .int .i64 x169001_1, .int .i64 x169002_1, .int .i64 x169003_1, .int .i64 x169004_1] 30 (0, 0)) (by (with_reducible repeat (first | refine blk_drewN ?_ _ | refine blk_drew ?_ | refine blk_alloc ?_ _)); exact BK168.out) hb); have n3_ := Aside0.mk (below_step (by repeat (first | (with_reducible first | exact HB.out | apply below_alloc | apply pw_below_drewN | apply below_drew1 | refine below_set ?_ GE168.out) | exact HB.out)) hb); clear HO_4; clear BK168; clear HB; have HO_4 := n0_; have HO174 := n1_; have BK168 := n2_; have HB := n3_; clear n0_ n1_ n2_ n3_; clear hb ho16; have hcv17 := own_string (P := Try.prog) Try.underlying74 Try.underlying5 Try.underlying9 (Kd.own_of_R HO174.out); have hcz18_0 : w15.cell? ⟨gb168, 0, none⟩ = some (.int .i64 x169000_1) := (blk_cell BK168.out 0).trans rfl; have hcz18_1 : w15.cell? ⟨gb168, 1, none⟩ = some (.int .i64 x169001_1) := (blk_cell BK168.out 1).trans rfl; have hcz18_2 : w15.cell? ⟨gb168, 2, none⟩ = some (.int .i64 x169002_1) := (blk_cell BK168.out 2).trans rfl; have hcz18_3 : w15.cell? ⟨gb168, 3, none⟩ = some (.int .i64 x169003_1) := (blk_cell BK168.out 3).trans rfl; have hcz18_4 : w15.cell? ⟨gb168, 4, none⟩ = some (.int .i64 x169004_1) := (blk_cell BK168.out 4).trans rfl; have hfz18_0 := blk_frozen BK168.out 0; have hfz18_1 := blk_frozen BK168.out 1; have hfz18_2 := blk_frozen BK168.out 2; have hfz18_3 := blk_frozen BK168.out 3; have hfz18_4 := blk_frozen BK168.out 4)); try go_wp2_with (first | ((with_reducible refine gate_dst (N := 32) rfl ?_); (try (refine gate_guard (by rfl) ?_; dsimp only)); refine Kd.R_lit (Kd.int .u8) _ 5 ?hg (N := 32) ?hd (xs := ([bt a0 x6_1] : List Int)) (inner := [.int .u8 (bt a0 x6_1)]) (ok := fun _ => True) (okp := fun _ => True) ?hr ?hp (fun _ hk => hk) trivial (Below.refl _ _) (Nat.le_refl _) (by simp) ?_; (case hd => rfl); (case hg => rfl); (case hr => first | (go_simp; done) | (go_simp; rfl)); (case hp => exact (Reps.one (show Kd.M (Kd.int .u8) _ _ _ (bt a0 x6_1) [.int .u8 (bt a0 x6_1)] from rfl) (Reps.none _ _))); intro v173 w15 ho16 hb hg_ hnew_; clear hg_ hnew_; (first | rw [← Ny172.out] at ho16 | (simp only [Int.reduceToNat] at ho16; rw [← Ny172.out] at ho16)); have n0_ := Aside0.mk (Kd.R_below (by (with_reducible repeat (first | apply Kd.R_alloc | apply Kd.R_drewN | apply Kd.R_drew)); exact HO_4.out) hb); have n1_ := Aside0.mk (Kd.R_lower ho16 (below_size (by repeat (first | (with_reducible first | exact HB.out | apply below_alloc | apply pw_below_drewN | apply below_drew1 | refine below_set ?_ GE168.out) | exact HB.out)))); have n2_ := Aside0.mk (blk_below (g := gb168) (o := .cells #[.int .i64 x169000_1, .int .i64 x169001_1, .int .i64 x169002_1, .int .i64 x169003_1, .int .i64 x169004_1] 30 (0, 0)) (by (with_reducible repeat (first | refine blk_drewN ?_ _ | refine blk_drew ?_ | refine blk_alloc ?_ _)); exact BK168.out) hb); have n3_ := Aside0.mk (below_step (by repeat (first | (with_reducible first | exact HB.out | apply below_alloc | apply pw_below_drewN | apply below_drew1 | refine below_set ?_ GE168.out) | exact HB.out)) hb); clear HO_4; clear BK168; clear HB; have HO_4 := n0_; have HO174 := n1_; have BK168 := n2_; have HB := n3_; clear n0_ n1_ n2_ n3_; clear hb ho16; have hcv17 := own_string (P := Try.prog) Try.underlying74 Try.underlying5 Try.underlying9 (Kd.own_of_R HO174.out); have hcz18_0 : w15.cell? ⟨gb168, 0, none⟩ = some (.int .i64 x169000_1) := (blk_cell BK168.out 0).trans rfl; have hcz18_1 : w15.cell? ⟨gb168, 1, none⟩ = some (.int .i64 x169001_1) := (blk_cell BK168.out 1).trans rfl; have hcz18_2 : w15.cell? ⟨gb168, 2, none⟩ = some (.int .i64 x169002_1) := (blk_cell BK168.out 2).trans rfl; have hcz18_3 : w15.cell? ⟨gb168, 3, none⟩ = some (.int .i64 x169003_1) := (blk_cell BK168.out 3).trans rfl; have hcz18_4 : w15.cell? ⟨gb168, 4, none⟩ = some (.int .i64 x169004_1) := (blk_cell BK168.out 4).trans rfl; have hfz18_0 := blk_frozen BK168.out 0; have hfz18_1 := blk_frozen BK168.out 1; have hfz18_2 := blk_frozen BK168.out 2; have hfz18_3 := blk_frozen BK168.out 3; have hfz18_4 := blk_frozen BK168.out 4)))
                refine bodyPost_ret (results_ct rfl _ _ gb168 30 #[.int .i64 0, .int .i64 0, .int .i64 0, .int .i64 0, .int .i64 0] (0, 0) _ rfl (by (with_reducible repeat (first | refine blk_drewN ?_ _ | refine blk_drew ?_ | refine blk_alloc ?_ _)); refine blk_put (cs := #[.int .i64 0, .int .i64 0, .int .i64 0, .int .i64 0, .int .i64 x169004_1]) ?_ 4 _ rfl; (with_reducible repeat (first | refine blk_drewN ?_ _ | refine blk_drew ?_ | refine blk_alloc ?_ _)); refine blk_put (cs := #[.int .i64 0, .int .i64 0, .int .i64 0, .int .i64 x169003_1, .int .i64 x169004_1]) ?_ 3 _ rfl; (with_reducible repeat (first | refine blk_drewN ?_ _ | refine blk_drew ?_ | refine blk_alloc ?_ _)); refine blk_put (cs := #[.int .i64 0, .int .i64 0, .int .i64 x169002_1, .int .i64 x169003_1, .int .i64 x169004_1]) ?_ 2 _ rfl; (with_reducible repeat (first | refine blk_drewN ?_ _ | refine blk_drew ?_ | refine blk_alloc ?_ _)); refine blk_put (cs := #[.int .i64 0, .int .i64 x169001_1, .int .i64 x169002_1, .int .i64 x169003_1, .int .i64 x169004_1]) ?_ 1 _ rfl; (with_reducible repeat (first | refine blk_drewN ?_ _ | refine blk_drew ?_ | refine blk_alloc ?_ _)); refine blk_put (cs := #[.int .i64 x169000_1, .int .i64 x169001_1, .int .i64 x169002_1, .int .i64 x169003_1, .int .i64 x169004_1]) ?_ 0 _ rfl; (with_reducible repeat (first | refine blk_drewN ?_ _ | refine blk_drew ?_ | refine blk_alloc ?_ _)); exact BK168.out) Try.underlying30 rfl (by kernel_rfl)) rfl ?_
                exact ⟨by first | rfl | (simp [errW_none, errW_some] <;> rfl) | (simp [*, errW_none, errW_some] <;> rfl), by repeat (first | (with_reducible first | exact HB.out | apply below_alloc | apply pw_below_drewN | apply below_drew1 | refine below_set ?_ GE168.out) | exact HB.out)⟩
              · rw [if_neg c14] at H
                have c14b0 : decide (30 < ((x5_1 ++ (strOfNums y172)).size : Int)) = false := decide_eq_false c14
                have c14b5 : decide (30 < (x5_1.size : Int) + ((strOfNums y172).size : Int)) = false := by have h_ := c14b0; simpa only [ByteArray.size_append, Int.natCast_add] using h_
                have c14b6 : ((x5_1.size : Int) + ((strOfNums y172).size : Int) ≤ 30) = True := by have h_ := c14b5; have h2_ := of_decide_eq_false h_; exact eq_true (by omega)
                have c14b1 : decide (30 < (x5_1 ++ (strOfNums y172)).size) = false := decide_eq_false (by omega)
                clear c14
                have H' := Aside0.mk H
                clear H
                have p5 : 0 ≤ (x6_1 : Int) := of_decide_eq_true (by first | (with_reducible assumption) | assumption)
                have q5 : x6_1 < (a0.size : Int) := of_decide_eq_true (by first | (with_reducible assumption) | assumption)
                have hx5 := bt_at a0 x6_1
                replace p5 := eq_true p5
                replace q5 := eq_true q5
                have p12 : 0 ≤ (x6_1 : Int) := of_decide_eq_true (by first | (with_reducible assumption) | assumption)
                have q12 : x6_1 < (a0.size : Int) := of_decide_eq_true (by first | (with_reducible assumption) | assumption)
                have hx12 := bt_at a0 x6_1
                replace p12 := eq_true p12
                replace q12 := eq_true q12
                go_wp2_with (first | ((with_reducible refine gate_dst (N := 32) rfl ?_); (try (refine gate_guard (by rfl) ?_; dsimp only)); refine Kd.R_lit (Kd.int .u8) _ 5 ?hg (N := 32) ?hd (xs := ([bt a0 x6_1] : List Int)) (inner := [.int .u8 (bt a0 x6_1)]) (ok := fun _ => True) (okp := fun _ => True) ?hr ?hp (fun _ hk => hk) trivial (Below.refl _ _) (Nat.le_refl _) (by simp) ?_; (case hd => rfl); (case hg => rfl); (case hr => first | (go_simp; done) | (go_simp; rfl)); (case hp => exact (Reps.one (show Kd.M (Kd.int .u8) _ _ _ (bt a0 x6_1) [.int .u8 (bt a0 x6_1)] from rfl) (Reps.none _ _))); intro v173 w19 ho20 hb hg_ hnew_; clear hg_ hnew_; (first | rw [← Ny172.out] at ho20 | (simp only [Int.reduceToNat] at ho20; rw [← Ny172.out] at ho20)); have n0_ := Aside0.mk (Kd.R_below (by (with_reducible repeat (first | apply Kd.R_alloc | apply Kd.R_drewN | apply Kd.R_drew)); exact HO_4.out) hb); have n1_ := Aside0.mk (Kd.R_lower ho20 (below_size (by repeat (first | (with_reducible first | exact HB.out | apply below_alloc | apply pw_below_drewN | apply below_drew1 | refine below_set ?_ GE168.out) | exact HB.out)))); have n2_ := Aside0.mk (blk_below (g := gb168) (o := .cells #[.int .i64 x169000_1, .int .i64 x169001_1, .int .i64 x169002_1, .int .i64 x169003_1, .int .i64 x169004_1] 30 (0, 0)) (by (with_reducible repeat (first | refine blk_drewN ?_ _ | refine blk_drew ?_ | refine blk_alloc ?_ _)); exact BK168.out) hb); have n3_ := Aside0.mk (below_step (by repeat (first | (with_reducible first | exact HB.out | apply below_alloc | apply pw_below_drewN | apply below_drew1 | refine below_set ?_ GE168.out) | exact HB.out)) hb); clear HO_4; clear BK168; clear HB; have HO_4 := n0_; have HO174 := n1_; have BK168 := n2_; have HB := n3_; clear n0_ n1_ n2_ n3_; clear hb ho20; have hcv21 := own_string (P := Try.prog) Try.underlying74 Try.underlying5 Try.underlying9 (Kd.own_of_R HO174.out)))
                repeat (go_quiet (first | ((with_reducible refine gate_dst (N := 32) rfl ?_); (try (refine gate_guard (by rfl) ?_; dsimp only)); refine Kd.R_lit (Kd.int .u8) _ 5 ?hg (N := 32) ?hd (xs := ([bt a0 x6_1] : List Int)) (inner := [.int .u8 (bt a0 x6_1)]) (ok := fun _ => True) (okp := fun _ => True) ?hr ?hp (fun _ hk => hk) trivial (Below.refl _ _) (Nat.le_refl _) (by simp) ?_; (case hd => rfl); (case hg => rfl); (case hr => first | (go_simp; done) | (go_simp; rfl)); (case hp => exact (Reps.one (show Kd.M (Kd.int .u8) _ _ _ (bt a0 x6_1) [.int .u8 (bt a0 x6_1)] from rfl) (Reps.none _ _))); intro v173 w19 ho20 hb hg_ hnew_; clear hg_ hnew_; (first | rw [← Ny172.out] at ho20 | (simp only [Int.reduceToNat] at ho20; rw [← Ny172.out] at ho20)); have n0_ := Aside0.mk (Kd.R_below (by (with_reducible repeat (first | apply Kd.R_alloc | apply Kd.R_drewN | apply Kd.R_drew)); exact HO_4.out) hb); have n1_ := Aside0.mk (Kd.R_lower ho20 (below_size (by repeat (first | (with_reducible first | exact HB.out | apply below_alloc | apply pw_below_drewN | apply below_drew1 | refine below_set ?_ GE168.out) | exact HB.out)))); have n2_ := Aside0.mk (blk_below (g := gb168) (o := .cells #[.int .i64 x169000_1, .int .i64 x169001_1, .int .i64 x169002_1, .int .i64 x169003_1, .int .i64 x169004_1] 30 (0, 0)) (by (with_reducible repeat (first | refine blk_drewN ?_ _ | refine blk_drew ?_ | refine blk_alloc ?_ _)); exact BK168.out) hb); have n3_ := Aside0.mk (below_step (by repeat (first | (with_reducible first | exact HB.out | apply below_alloc | apply pw_below_drewN | apply below_drew1 | refine below_set ?_ GE168.out) | exact HB.out)) hb); clear HO_4; clear BK168; clear HB; have HO_4 := n0_; have HO174 := n1_; have BK168 := n2_; have HB := n3_; clear n0_ n1_ n2_ n3_; clear hb ho20; have hcv21 := own_string (P := Try.prog) Try.underlying74 Try.underlying5 Try.underlying9 (Kd.own_of_R HO174.out))); try go_wp2_with (first | ((with_reducible refine gate_dst (N := 32) rfl ?_); (try (refine gate_guard (by rfl) ?_; dsimp only)); refine Kd.R_lit (Kd.int .u8) _ 5 ?hg (N := 32) ?hd (xs := ([bt a0 x6_1] : List Int)) (inner := [.int .u8 (bt a0 x6_1)]) (ok := fun _ => True) (okp := fun _ => True) ?hr ?hp (fun _ hk => hk) trivial (Below.refl _ _) (Nat.le_refl _) (by simp) ?_; (case hd => rfl); (case hg => rfl); (case hr => first | (go_simp; done) | (go_simp; rfl)); (case hp => exact (Reps.one (show Kd.M (Kd.int .u8) _ _ _ (bt a0 x6_1) [.int .u8 (bt a0 x6_1)] from rfl) (Reps.none _ _))); intro v173 w19 ho20 hb hg_ hnew_; clear hg_ hnew_; (first | rw [← Ny172.out] at ho20 | (simp only [Int.reduceToNat] at ho20; rw [← Ny172.out] at ho20)); have n0_ := Aside0.mk (Kd.R_below (by (with_reducible repeat (first | apply Kd.R_alloc | apply Kd.R_drewN | apply Kd.R_drew)); exact HO_4.out) hb); have n1_ := Aside0.mk (Kd.R_lower ho20 (below_size (by repeat (first | (with_reducible first | exact HB.out | apply below_alloc | apply pw_below_drewN | apply below_drew1 | refine below_set ?_ GE168.out) | exact HB.out)))); have n2_ := Aside0.mk (blk_below (g := gb168) (o := .cells #[.int .i64 x169000_1, .int .i64 x169001_1, .int .i64 x169002_1, .int .i64 x169003_1, .int .i64 x169004_1] 30 (0, 0)) (by (with_reducible repeat (first | refine blk_drewN ?_ _ | refine blk_drew ?_ | refine blk_alloc ?_ _)); exact BK168.out) hb); have n3_ := Aside0.mk (below_step (by repeat (first | (with_reducible first | exact HB.out | apply below_alloc | apply pw_below_drewN | apply below_drew1 | refine below_set ?_ GE168.out) | exact HB.out)) hb); clear HO_4; clear BK168; clear HB; have HO_4 := n0_; have HO174 := n1_; have BK168 := n2_; have HB := n3_; clear n0_ n1_ n2_ n3_; clear hb ho20; have hcv21 := own_string (P := Try.prog) Try.underlying74 Try.underlying5 Try.underlying9 (Kd.own_of_R HO174.out))))
                go_roundg k1
                case measure => have := HK1.out; omega
                case rel => exact ⟨(x4_1), (x5_1 ++ (strOfNums y172)), (wrap64 (x6_1 + 1)), (x169000_1), (x169001_1), (x169002_1), (x169003_1), (x169004_1), (by first | rfl | (simp; done) | (simp [*]; done)), (by first | rfl | (simp; done) | (simp [*]; done)), H', ⟨by have := HK1.out; omega⟩, ⟨by (with_reducible repeat (first | apply Kd.R_alloc | apply Kd.R_drewN | apply Kd.R_drew)); exact HO_4.out⟩, ⟨by (with_reducible repeat (first | refine blk_drewN ?_ _ | refine blk_drew ?_ | refine blk_alloc ?_ _)); exact BK168.out⟩, ⟨by repeat (first | (with_reducible first | exact HB.out | apply below_alloc | apply pw_below_drewN | apply below_drew1 | refine below_set ?_ GE168.out) | exact HB.out)⟩⟩
            · rw [if_neg c13] at H
              exact absurd H (by simp)
        · rw [if_neg c4] at H
          exact absurd H (by simp)
      · rw [if_neg c3] at H
        have c3b0 : decide (x6_1 < (a0.size : Int)) = false := decide_eq_false c3
        clear c3
        by_cases c22 : x4_1.length < 8796093022208
        · rw [if_pos c22] at H
          have LMc22 := Aside0.mk c22
          clear c22
          obtain ⟨y175, hy175⟩ : ∃ y_ : List ByteArray, y_ = (x4_1 ++ [x5_1]) := ⟨_, rfl⟩
          replace H : ((kindlingref03_Table.f).bind fun t178 => (kindlingref03_Parse.l1 k1 a0 y175 t178 1)) = some (r1, r2, r3, r4, r5, r6) := by first | (rw [hy175]; with_reducible exact H) | (have H2_ := (Option.bind_some _ _).symm.trans H; rw [hy175]; with_reducible exact H2_) | (have H2_ := (Option.bind_some _ _).symm.trans H; with_reducible exact H2_) | with_reducible exact H | (rw [hy175]; exact H) | exact H
          have Ny175 := Aside0.mk hy175
          clear hy175
          replace H := Option.bind_eq_some_iff.mp H
          obtain ⟨t178, A230, H⟩ := H
          replace H : (kindlingref03_Parse.l1 k1 a0 y175 t178 1) = some (r1, r2, r3, r4, r5, r6) := H
          have A23 := Aside0.mk A230
          clear A230
          have H' := Aside0.mk H
          clear H
          go_wp2_with (first | ((with_reducible refine gate_builtin (b := .append) (xs := #[.tmp 39, .tmp 41]) rfl ?_); (try (refine gate_guard (by rfl) ?_; dsimp only)); at_builtin; refine Kd.R_append Kd.string (w0 := w) w.heap.size rfl (.tmp 39) (.tmp 41) 43 9 (.string ⟨#[]⟩) 16 rfl Try.underlying43 info9 rfl (by decide) (by omega) u4 x4_1 x5_1 [.string x5_1] (fun _ => True) (fun _ => False) rfl rfl ?aP (fun _ hk => hk.elim) ?aF ?aO ?aB ?aS ?aL ?_; (case aP => exact rfl); (case aB => exact (by repeat (first | (with_reducible first | exact HB.out | apply below_alloc | apply pw_below_drewN | apply below_drew1 | refine below_set ?_ GE168.out) | exact HB.out))); (case aF => exact (fun _ _ => trivial)); (case aO => exact (by (with_reducible repeat (first | apply Kd.R_alloc | apply Kd.R_drewN | apply Kd.R_drew)); exact HO_4.out)); (case aS => exact (below_size (by repeat (first | (with_reducible first | exact HB.out | apply below_alloc | apply pw_below_drewN | apply below_drew1 | refine below_set ?_ GE168.out) | exact HB.out)))); (case aL => have := LMc22.out; omega); intro v176 w24 ho hb hg hat; rw [← Ny175.out] at ho; have n0_ := Aside0.mk (blk_grown (g := gb168) (o := .cells #[.int .i64 x169000_1, .int .i64 x169001_1, .int .i64 x169002_1, .int .i64 x169003_1, .int .i64 x169004_1] 30 (0, 0)) (by (with_reducible repeat (first | refine blk_drewN ?_ _ | refine blk_drew ?_ | refine blk_alloc ?_ _)); exact BK168.out) hg (Kd.R_ne HO_4.out BK168.out (by decide))); have n1_ := Aside0.mk (hb); have n2_ := Aside0.mk (ho); clear BK168; clear HB; clear HO_4; have BK168 := n0_; have HB := n1_; have HO177 := n2_; clear n0_ n1_ n2_; clear ho hb hg hat) | (go_at_call 40; (with_reducible refine (kindlingref03_Table.calls  t178 _ A23.out).mono ?_); rintro e w25 ⟨v179, rfl, ho0, hb⟩; have n0_ := Aside0.mk (Kd.R_below (by (with_reducible repeat (first | apply Kd.R_alloc | apply Kd.R_drewN | apply Kd.R_drew)); exact HO177.out) hb); have n1_ := Aside0.mk (Kd.R_lower ho0 (below_size (by repeat (first | (with_reducible first | exact HB.out | apply below_alloc | apply pw_below_drewN | apply below_drew1 | refine below_set ?_ GE168.out) | exact HB.out)))); have n2_ := Aside0.mk (blk_below (g := gb168) (o := .cells #[.int .i64 x169000_1, .int .i64 x169001_1, .int .i64 x169002_1, .int .i64 x169003_1, .int .i64 x169004_1] 30 (0, 0)) (by (with_reducible repeat (first | refine blk_drewN ?_ _ | refine blk_drew ?_ | refine blk_alloc ?_ _)); exact BK168.out) hb); have n3_ := Aside0.mk (below_step (by repeat (first | (with_reducible first | exact HB.out | apply below_alloc | apply pw_below_drewN | apply below_drew1 | refine below_set ?_ GE168.out) | exact HB.out)) hb); clear HO177; clear BK168; clear HB; have HO177 := n0_; have HO180 := n1_; have BK168 := n2_; have HB := n3_; clear n0_ n1_ n2_ n3_; (try clear hb); (try clear hb2); (try clear hk); (try clear hi); (try clear ho0)))
          repeat (go_quiet (first | ((with_reducible refine gate_builtin (b := .append) (xs := #[.tmp 39, .tmp 41]) rfl ?_); (try (refine gate_guard (by rfl) ?_; dsimp only)); at_builtin; refine Kd.R_append Kd.string (w0 := w) w.heap.size rfl (.tmp 39) (.tmp 41) 43 9 (.string ⟨#[]⟩) 16 rfl Try.underlying43 info9 rfl (by decide) (by omega) u4 x4_1 x5_1 [.string x5_1] (fun _ => True) (fun _ => False) rfl rfl ?aP (fun _ hk => hk.elim) ?aF ?aO ?aB ?aS ?aL ?_; (case aP => exact rfl); (case aB => exact (by repeat (first | (with_reducible first | exact HB.out | apply below_alloc | apply pw_below_drewN | apply below_drew1 | refine below_set ?_ GE168.out) | exact HB.out))); (case aF => exact (fun _ _ => trivial)); (case aO => exact (by (with_reducible repeat (first | apply Kd.R_alloc | apply Kd.R_drewN | apply Kd.R_drew)); exact HO_4.out)); (case aS => exact (below_size (by repeat (first | (with_reducible first | exact HB.out | apply below_alloc | apply pw_below_drewN | apply below_drew1 | refine below_set ?_ GE168.out) | exact HB.out)))); (case aL => have := LMc22.out; omega); intro v176 w24 ho hb hg hat; rw [← Ny175.out] at ho; have n0_ := Aside0.mk (blk_grown (g := gb168) (o := .cells #[.int .i64 x169000_1, .int .i64 x169001_1, .int .i64 x169002_1, .int .i64 x169003_1, .int .i64 x169004_1] 30 (0, 0)) (by (with_reducible repeat (first | refine blk_drewN ?_ _ | refine blk_drew ?_ | refine blk_alloc ?_ _)); exact BK168.out) hg (Kd.R_ne HO_4.out BK168.out (by decide))); have n1_ := Aside0.mk (hb); have n2_ := Aside0.mk (ho); clear BK168; clear HB; clear HO_4; have BK168 := n0_; have HB := n1_; have HO177 := n2_; clear n0_ n1_ n2_; clear ho hb hg hat) | (go_at_call 40; (with_reducible refine (kindlingref03_Table.calls  t178 _ A23.out).mono ?_); rintro e w25 ⟨v179, rfl, ho0, hb⟩; have n0_ := Aside0.mk (Kd.R_below (by (with_reducible repeat (first | apply Kd.R_alloc | apply Kd.R_drewN | apply Kd.R_drew)); exact HO177.out) hb); have n1_ := Aside0.mk (Kd.R_lower ho0 (below_size (by repeat (first | (with_reducible first | exact HB.out | apply below_alloc | apply pw_below_drewN | apply below_drew1 | refine below_set ?_ GE168.out) | exact HB.out)))); have n2_ := Aside0.mk (blk_below (g := gb168) (o := .cells #[.int .i64 x169000_1, .int .i64 x169001_1, .int .i64 x169002_1, .int .i64 x169003_1, .int .i64 x169004_1] 30 (0, 0)) (by (with_reducible repeat (first | refine blk_drewN ?_ _ | refine blk_drew ?_ | refine blk_alloc ?_ _)); exact BK168.out) hb); have n3_ := Aside0.mk (below_step (by repeat (first | (with_reducible first | exact HB.out | apply below_alloc | apply pw_below_drewN | apply below_drew1 | refine below_set ?_ GE168.out) | exact HB.out)) hb); clear HO177; clear BK168; clear HB; have HO177 := n0_; have HO180 := n1_; have BK168 := n2_; have HB := n3_; clear n0_ n1_ n2_ n3_; (try clear hb); (try clear hb2); (try clear hk); (try clear hi); (try clear ho0))); try go_wp2_with (first | ((with_reducible refine gate_builtin (b := .append) (xs := #[.tmp 39, .tmp 41]) rfl ?_); (try (refine gate_guard (by rfl) ?_; dsimp only)); at_builtin; refine Kd.R_append Kd.string (w0 := w) w.heap.size rfl (.tmp 39) (.tmp 41) 43 9 (.string ⟨#[]⟩) 16 rfl Try.underlying43 info9 rfl (by decide) (by omega) u4 x4_1 x5_1 [.string x5_1] (fun _ => True) (fun _ => False) rfl rfl ?aP (fun _ hk => hk.elim) ?aF ?aO ?aB ?aS ?aL ?_; (case aP => exact rfl); (case aB => exact (by repeat (first | (with_reducible first | exact HB.out | apply below_alloc | apply pw_below_drewN | apply below_drew1 | refine below_set ?_ GE168.out) | exact HB.out))); (case aF => exact (fun _ _ => trivial)); (case aO => exact (by (with_reducible repeat (first | apply Kd.R_alloc | apply Kd.R_drewN | apply Kd.R_drew)); exact HO_4.out)); (case aS => exact (below_size (by repeat (first | (with_reducible first | exact HB.out | apply below_alloc | apply pw_below_drewN | apply below_drew1 | refine below_set ?_ GE168.out) | exact HB.out)))); (case aL => have := LMc22.out; omega); intro v176 w24 ho hb hg hat; rw [← Ny175.out] at ho; have n0_ := Aside0.mk (blk_grown (g := gb168) (o := .cells #[.int .i64 x169000_1, .int .i64 x169001_1, .int .i64 x169002_1, .int .i64 x169003_1, .int .i64 x169004_1] 30 (0, 0)) (by (with_reducible repeat (first | refine blk_drewN ?_ _ | refine blk_drew ?_ | refine blk_alloc ?_ _)); exact BK168.out) hg (Kd.R_ne HO_4.out BK168.out (by decide))); have n1_ := Aside0.mk (hb); have n2_ := Aside0.mk (ho); clear BK168; clear HB; clear HO_4; have BK168 := n0_; have HB := n1_; have HO177 := n2_; clear n0_ n1_ n2_; clear ho hb hg hat) | (go_at_call 40; (with_reducible refine (kindlingref03_Table.calls  t178 _ A23.out).mono ?_); rintro e w25 ⟨v179, rfl, ho0, hb⟩; have n0_ := Aside0.mk (Kd.R_below (by (with_reducible repeat (first | apply Kd.R_alloc | apply Kd.R_drewN | apply Kd.R_drew)); exact HO177.out) hb); have n1_ := Aside0.mk (Kd.R_lower ho0 (below_size (by repeat (first | (with_reducible first | exact HB.out | apply below_alloc | apply pw_below_drewN | apply below_drew1 | refine below_set ?_ GE168.out) | exact HB.out)))); have n2_ := Aside0.mk (blk_below (g := gb168) (o := .cells #[.int .i64 x169000_1, .int .i64 x169001_1, .int .i64 x169002_1, .int .i64 x169003_1, .int .i64 x169004_1] 30 (0, 0)) (by (with_reducible repeat (first | refine blk_drewN ?_ _ | refine blk_drew ?_ | refine blk_alloc ?_ _)); exact BK168.out) hb); have n3_ := Aside0.mk (below_step (by repeat (first | (with_reducible first | exact HB.out | apply below_alloc | apply pw_below_drewN | apply below_drew1 | refine below_set ?_ GE168.out) | exact HB.out)) hb); clear HO177; clear BK168; clear HB; have HO177 := n0_; have HO180 := n1_; have BK168 := n2_; have HB := n3_; clear n0_ n1_ n2_ n3_; (try clear hb); (try clear hb2); (try clear hk); (try clear hi); (try clear ho0))))
          go_loopg [8] k1 (fun kq v8 w' => ∃ (x8_2 : Int) (x169000_2 : Int) (x169001_2 : Int) (x169002_2 : Int) (x169003_2 : Int) (x169004_2 : Int), v8 = .int .i64 x8_2 ∧ Aside0 (kindlingref03_Parse.l1 kq a0 y175 t178 x8_2 = some (r1, r2, r3, r4, r5, r6)) ∧ Aside0 (kq ≤ k1) ∧ Aside0 (Kd.R Kd.string 9 w' w.heap.size (fun _ => True) v176 y175) ∧ Aside0 (Kd.R k23 23 w' w.heap.size (fun _ => True) v179 t178) ∧ Aside0 (w'.heap[gb168]? = some (.cells #[.int .i64 x169000_2, .int .i64 x169001_2, .int .i64 x169002_2, .int .i64 x169003_2, .int .i64 x169004_2] 30 (0, 0))) ∧ Aside0 (Below w.heap.size w w'))
          case atStart => exact ⟨(1), (x169000_1), (x169001_1), (x169002_1), (x169003_1), (x169004_1), (by first | rfl | (simp; done) | (simp [*]; done)), H', ⟨Nat.le_refl _⟩, ⟨by (with_reducible repeat (first | apply Kd.R_alloc | apply Kd.R_drewN | apply Kd.R_drew)); exact HO177.out⟩, ⟨by (with_reducible repeat (first | apply Kd.R_alloc | apply Kd.R_drewN | apply Kd.R_drew)); exact HO180.out⟩, ⟨by (with_reducible repeat (first | refine blk_drewN ?_ _ | refine blk_drew ?_ | refine blk_alloc ?_ _)); exact BK168.out⟩, ⟨by repeat (first | (with_reducible first | exact HB.out | apply below_alloc | apply pw_below_drewN | apply below_drew1 | refine below_set ?_ GE168.out) | exact HB.out)⟩⟩
          case round =>
            clear H'
            try clear c1
            try clear p1
            try clear q1
            try clear hx1
            try clear hcv1
            try clear c2
            try clear p2
            try clear hcv2
            try clear c3
            try clear c3b0
            try clear c4
            try clear c4b0
            try clear p5
            try clear q5
            try clear hx5
            try clear c6
            try clear c6b0
            try clear c6b1
            try clear p6
            try clear c7
            try clear c8
            try clear c8b0
            try clear p12
            try clear q12
            try clear hx12
            try clear c13
            try clear c13b0
            try clear c13b1
            try clear c13b2
            try clear c14
            try clear c14b0
            try clear c14b1
            try clear hcv17
            try clear hcv21
            try clear c22
            try clear hcz10_0
            try clear hcz10_1
            try clear hcz10_2
            try clear hcz10_3
            try clear hcz10_4
            try clear hcz18_0
            try clear hcz18_1
            try clear hcz18_2
            try clear hcz18_3
            try clear hcz18_4
            try clear hfz10_0
            try clear hfz10_1
            try clear hfz10_2
            try clear hfz10_3
            try clear hfz10_4
            try clear hfz18_0
            try clear hfz18_1
            try clear hfz18_2
            try clear hfz18_3
            try clear hfz18_4
            try clear p12
            try clear p2
            try clear p5
            try clear q12
            try clear q5
            obtain ⟨x8_2, x169000_2, x169001_2, x169002_2, x169003_2, x169004_2, rfl, HA, HK2, HO_4, HO_7, BK168, HB⟩ := hrel
            cases gk with
            | zero => exact absurd HA.out (by simp [kindlingref03_Parse.l1])
            | succ k2 =>
              have H := HA.out
              clear HA
              simp only [kindlingref03_Parse.l1] at H
              by_cases c26 : x8_2 < (t178.length : Int)
              · rw [if_pos c26] at H
                have c26b0 : decide (x8_2 < (t178.length : Int)) = true := decide_eq_true c26
                clear c26
                have HC27 := Aside0.mk H
                clear H
                obtain ⟨Ao28, co28, eo28⟩ := Kd.R_slice HO_7.out
                subst eo28
                go_upto_region 17 with (fail)
                repeat (go_quiet (fail); go_upto_region 17 with (fail))
                go_cut [70] (fun v70 wc => ∃ (kq : Nat) (x70_26 : Bool), v70 = .bool x70_26 ∧ Aside0 (kindlingref03_Parse.j2 kq a0 y175 t178 x8_2 x70_26 = some (r1, r2, r3, r4, r5, r6)) ∧ Aside0 (kq ≤ k2) ∧ Aside0 (Kd.R Kd.string 9 wc w.heap.size (fun _ => True) v176 y175) ∧ Aside0 (Kd.R k23 23 wc w.heap.size (fun _ => True) (.slice Ao28 t178.length co28) t178) ∧ Aside0 (wc.heap[gb168]? = some (.cells #[.int .i64 x169000_2, .int .i64 x169001_2, .int .i64 x169002_2, .int .i64 x169003_2, .int .i64 x169004_2] 30 (0, 0))) ∧ Aside0 (Below w.heap.size w wc))
                case first =>
                  have H := HC27.out
                  clear HC27
                  by_cases c29 : 0 ≤ x8_2
                  · rw [if_pos c29] at H
                    have c29b0 : decide (0 ≤ x8_2) = true := decide_eq_true c29
                    clear c29
                    (first | rw [c29b0] | (simp only [i64_w, i32_w]; rw [c29b0]) | skip)
                    by_cases c30 : 0 < (y175.length : Int)
                    · rw [if_pos c30] at H
                      have c30b0 : decide (0 < (y175.length : Int)) = true := decide_eq_true c30
                      have c30b1 : decide (0 < y175.length) = true := decide_eq_true (by omega)
                      clear c30
                      by_cases c31 : ((rd_T23 t178 x8_2).f0).toList = (rdOf ByteArray.empty y175 0).toList
                      · rw [if_pos c31] at H
                        have c31b0 : (((rd_T23 t178 x8_2).f0).toList == (rdOf ByteArray.empty y175 0).toList) = true := beq_iff_eq.mpr c31
                        have c31b1 : (((rd_T23 t178 x8_2).f0).toList != (rdOf ByteArray.empty y175 0).toList) = false := bne_eq_false_iff_eq.mpr c31
                        clear c31
                        have H' := Aside0.mk H
                        clear H
                        have p181 : 0 ≤ (x8_2 : Int) := of_decide_eq_true (by first | (with_reducible assumption) | assumption)
                        have q181 : x8_2 < (t178.length : Int) := of_decide_eq_true (by first | (with_reducible assumption) | assumption)
                        obtain ⟨ad181, e181, hx181_0, hx181_1, hx181_2, hx181_3⟩ := at_T23 (Kd.R_reads' HO_7.out).2.2 x8_2 p181 q181
                        cases e181
                        replace p181 := eq_true p181
                        replace q181 := eq_true q181
                        obtain ⟨Ao32, co32, eo32⟩ := Kd.R_slice HO_4.out
                        subst eo32
                        have p182 : 0 ≤ (0 : Int) := (by omega)
                        have q182 : 0 < (y175.length : Int) := of_decide_eq_true (by first | (with_reducible assumption) | assumption)
                        obtain ⟨ad182, e182, hx182_0⟩ := Kd.at_string (Kd.R_reads' HO_4.out).2.2 0 p182 q182
                        cases e182
                        have qi182 : (0 < y175.length) = True := eq_true (by omega)
                        (try rw [show ((0 : Int)).toNat = 0 from rfl] at hx182_0)
                        (try rw [Addr.add_zero'] at hx182_0)
                        replace p182 := eq_true p182
                        replace q182 := eq_true q182
                        have p183 : 0 ≤ (x8_2 : Int) := of_decide_eq_true (by first | (with_reducible assumption) | assumption)
                        have q183 : x8_2 < (t178.length : Int) := of_decide_eq_true (by first | (with_reducible assumption) | assumption)
                        obtain ⟨ad183, e183, hx183_0, hx183_1, hx183_2, hx183_3⟩ := at_T23 (Kd.R_reads' HO_7.out).2.2 x8_2 p183 q183
                        obtain rfl : ad181 = ad183 := (by injection e183)
                        replace p183 := eq_true p183
                        replace q183 := eq_true q183
                        go_wp2
                        repeat (go_quiet (fail); try go_wp2)
                        go_meet
                        case rel => exact ⟨_, (((y175.length : Int) != (wrap64 ((((rd_T23 t178 x8_2).f1).size : Int) + 1)))), (by first | rfl | (simp; done) | (simp [*]; done)), H', ⟨by have := HK1.out; have := HK2.out; first | omega | exact Nat.le_refl _⟩, ⟨by (with_reducible repeat (first | apply Kd.R_alloc | apply Kd.R_drewN | apply Kd.R_drew)); exact HO_4.out⟩, ⟨by (with_reducible repeat (first | apply Kd.R_alloc | apply Kd.R_drewN | apply Kd.R_drew)); exact HO_7.out⟩, ⟨by (with_reducible repeat (first | refine blk_drewN ?_ _ | refine blk_drew ?_ | refine blk_alloc ?_ _)); exact BK168.out⟩, ⟨by repeat (first | (with_reducible first | exact HB.out | apply below_alloc | apply pw_below_drewN | apply below_drew1 | refine below_set ?_ GE168.out) | exact HB.out)⟩⟩
                      · rw [if_neg c31] at H
                        have c31b0 : (((rd_T23 t178 x8_2).f0).toList == (rdOf ByteArray.empty y175 0).toList) = false := beq_eq_false_iff_ne.mpr c31
                        have c31b1 : (((rd_T23 t178 x8_2).f0).toList != (rdOf ByteArray.empty y175 0).toList) = true := bne_iff_ne.mpr c31
                        have H' := Aside0.mk H
                        clear H
                        have p181 : 0 ≤ (x8_2 : Int) := of_decide_eq_true (by first | (with_reducible assumption) | assumption)
                        have q181 : x8_2 < (t178.length : Int) := of_decide_eq_true (by first | (with_reducible assumption) | assumption)
                        obtain ⟨ad181, e181, hx181_0, hx181_1, hx181_2, hx181_3⟩ := at_T23 (Kd.R_reads' HO_7.out).2.2 x8_2 p181 q181
                        cases e181
                        replace p181 := eq_true p181
                        replace q181 := eq_true q181
                        obtain ⟨Ao33, co33, eo33⟩ := Kd.R_slice HO_4.out
                        subst eo33
                        have p182 : 0 ≤ (0 : Int) := (by omega)
                        have q182 : 0 < (y175.length : Int) := of_decide_eq_true (by first | (with_reducible assumption) | assumption)
                        obtain ⟨ad182, e182, hx182_0⟩ := Kd.at_string (Kd.R_reads' HO_4.out).2.2 0 p182 q182
                        cases e182
                        have qi182 : (0 < y175.length) = True := eq_true (by omega)
                        (try rw [show ((0 : Int)).toNat = 0 from rfl] at hx182_0)
                        (try rw [Addr.add_zero'] at hx182_0)
                        replace p182 := eq_true p182
                        replace q182 := eq_true q182
                        go_wp2
                        repeat (go_quiet (fail); try go_wp2)
                        go_meet
                        case rel => exact ⟨_, (true), (by first | rfl | (simp; done) | (simp [*]; done)), H', ⟨by have := HK1.out; have := HK2.out; first | omega | exact Nat.le_refl _⟩, ⟨by (with_reducible repeat (first | apply Kd.R_alloc | apply Kd.R_drewN | apply Kd.R_drew)); exact HO_4.out⟩, ⟨by (with_reducible repeat (first | apply Kd.R_alloc | apply Kd.R_drewN | apply Kd.R_drew)); exact HO_7.out⟩, ⟨by (with_reducible repeat (first | refine blk_drewN ?_ _ | refine blk_drew ?_ | refine blk_alloc ?_ _)); exact BK168.out⟩, ⟨by repeat (first | (with_reducible first | exact HB.out | apply below_alloc | apply pw_below_drewN | apply below_drew1 | refine below_set ?_ GE168.out) | exact HB.out)⟩⟩
                    · rw [if_neg c30] at H
                      exact absurd H (by simp)
                  · rw [if_neg c29] at H
                    exact absurd H (by simp)
                case rest =>
                  clear HC27
                  try clear c1
                  try clear p1
                  try clear q1
                  try clear hx1
                  try clear hcv1
                  try clear qi1
                  try clear c2
                  try clear p2
                  try clear hcv2
                  try clear c3
                  try clear c3b0
                  try clear c4
                  try clear c4b0
                  try clear p5
                  try clear q5
                  try clear hx5
                  try clear c6
                  try clear c6b0
                  try clear c6b1
                  try clear p6
                  try clear c7
                  try clear c8
                  try clear c8b0
                  try clear p12
                  try clear q12
                  try clear hx12
                  try clear c13
                  try clear c13b0
                  try clear c13b1
                  try clear c13b2
                  try clear c14
                  try clear c14b0
                  try clear c14b1
                  try clear hcv17
                  try clear p18
                  try clear q18
                  try clear hx18
                  try clear qi18
                  try clear hcv21
                  try clear c22
                  try clear c26
                  try clear c26b0
                  try clear c29
                  try clear c29b0
                  try clear c30
                  try clear c30b0
                  try clear c30b1
                  try clear c31
                  try clear c31b0
                  try clear c31b1
                  try clear c32
                  try clear hcz10_0
                  try clear hcz10_1
                  try clear hcz10_2
                  try clear hcz10_3
                  try clear hcz10_4
                  try clear hcz18_0
                  try clear hcz18_1
                  try clear hcz18_2
                  try clear hcz18_3
                  try clear hcz18_4
                  try clear hfz10_0
                  try clear hfz10_1
                  try clear hfz10_2
                  try clear hfz10_3
                  try clear hfz10_4
                  try clear hfz18_0
                  try clear hfz18_1
                  try clear hfz18_2
                  try clear hfz18_3
                  try clear hfz18_4
                  try clear hx181_0
                  try clear hx181_1
                  try clear hx181_2
                  try clear hx181_3
                  try clear hx182_0
                  try clear hx183_0
                  try clear hx183_1
                  try clear hx183_2
                  try clear hx183_3
                  try clear p1
                  try clear p12
                  try clear p181
                  try clear p182
                  try clear p183
                  try clear p2
                  try clear p5
                  try clear p6
                  try clear q1
                  try clear q12
                  try clear q181
                  try clear q182
                  try clear q183
                  try clear q5
                  obtain ⟨kq, x70_26, rfl, HA, HJ26, HO_4, HO_7, BK168, HB⟩ := hcut
                  cases kq with
                  | zero => exact absurd HA.out (by simp [kindlingref03_Parse.j2])
                  | succ kj26 =>
                    have H := HA.out
                    clear HA
                    simp only [kindlingref03_Parse.j2] at H
                    by_cases c34 : x70_26 = true
                    · subst c34
                      have H1 : (kindlingref03_Parse.l1 kj26 a0 y175 t178 (wrap64 (x8_2 + 1))) = some (r1, r2, r3, r4, r5, r6) := by rw [if_pos rfl] at H; exact H
                      clear H
                      have H := H1
                      clear H1
                      have H' := Aside0.mk H
                      clear H
                      go_wp2
                      repeat (go_quiet (fail); try go_wp2)
                      go_roundg kj26
                      case measure => have := HK1.out; have := HK2.out; have := HJ26.out; omega
                      case rel => exact ⟨(wrap64 (x8_2 + 1)), (x169000_2), (x169001_2), (x169002_2), (x169003_2), (x169004_2), (by first | rfl | (simp; done) | (simp [*]; done)), H', ⟨by have := HK1.out; have := HK2.out; have := HJ26.out; omega⟩, ⟨by (with_reducible repeat (first | apply Kd.R_alloc | apply Kd.R_drewN | apply Kd.R_drew)); exact HO_4.out⟩, ⟨by (with_reducible repeat (first | apply Kd.R_alloc | apply Kd.R_drewN | apply Kd.R_drew)); exact HO_7.out⟩, ⟨by (with_reducible repeat (first | refine blk_drewN ?_ _ | refine blk_drew ?_ | refine blk_alloc ?_ _)); exact BK168.out⟩, ⟨by repeat (first | (with_reducible first | exact HB.out | apply below_alloc | apply pw_below_drewN | apply below_drew1 | refine below_set ?_ GE168.out) | exact HB.out)⟩⟩
                    · replace c34 := Bool.eq_false_iff.mpr c34
                      subst c34
                      have H1 : (kindlingref03_Parse.l2 kj26 a0 y175 t178 x8_2 1 x8_2 0 0 0 0) = some (r1, r2, r3, r4, r5, r6) := by rw [if_neg (show ¬ (false = true) by decide)] at H; exact H
                      clear H
                      have H := H1
                      clear H1
                      have H' := Aside0.mk H
                      clear H
                      go_wp2_with (first | ((with_reducible refine gate_dst (N := 9) rfl ?_); (try (refine gate_guard (by rfl) ?_; dsimp only)); refine box_event ?hg (N := 9) ?hd (cs := #[.int .i64 0, .int .i64 0, .int .i64 0, .int .i64 0, .int .i64 0]) (t := 30) ?hr ?_; (case hd => rfl); (case hg => rfl); (case hr => first | (go_simp; done) | (go_simp; rfl)); intro gb184 hg w35 hbox hb; have n0_ := Aside0.mk (Kd.R_below (by (with_reducible repeat (first | apply Kd.R_alloc | apply Kd.R_drewN | apply Kd.R_drew)); exact HO_4.out) hb); have n1_ := Aside0.mk (Kd.R_below (by (with_reducible repeat (first | apply Kd.R_alloc | apply Kd.R_drewN | apply Kd.R_drew)); exact HO_7.out) hb); have n2_ := Aside0.mk (blk_below (g := gb168) (o := .cells #[.int .i64 x169000_2, .int .i64 x169001_2, .int .i64 x169002_2, .int .i64 x169003_2, .int .i64 x169004_2] 30 (0, 0)) (by (with_reducible repeat (first | refine blk_drewN ?_ _ | refine blk_drew ?_ | refine blk_alloc ?_ _)); exact BK168.out) hb); have n3_ := Aside0.mk (below_step (by repeat (first | (with_reducible first | exact HB.out | apply below_alloc | apply pw_below_drewN | apply below_drew1 | refine below_set ?_ GE168.out) | exact HB.out)) hb); have n4_ := Aside0.mk (hbox); have n5_ := Aside0.mk ((by rw [hg]; exact (below_size (by repeat (first | (with_reducible first | exact HB.out | apply below_alloc | apply pw_below_drewN | apply below_drew1 | refine below_set ?_ GE168.out) | exact HB.out))) : w.heap.size ≤ gb184)); have n6_ := Aside0.mk ((by rw [hg]; exact (below_size (by repeat (first | (with_reducible first | exact HB.out | apply below_alloc | apply pw_below_drewN | apply below_drew1 | refine below_set ?_ GE168.out) | exact HB.out))) : w.heap.size ≤ gb184)); have n7_ := Aside0.mk ((by rw [hg]; exact Nat.ne_of_lt (blk_lt (g := gb168) (o := .cells #[.int .i64 x169000_2, .int .i64 x169001_2, .int .i64 x169002_2, .int .i64 x169003_2, .int .i64 x169004_2] 30 (0, 0)) (by (with_reducible repeat (first | refine blk_drewN ?_ _ | refine blk_drew ?_ | refine blk_alloc ?_ _)); exact BK168.out)) : gb168 ≠ gb184)); have n8_ := Aside0.mk ((by rw [hg]; exact Nat.ne_of_gt (blk_lt (g := gb168) (o := .cells #[.int .i64 x169000_2, .int .i64 x169001_2, .int .i64 x169002_2, .int .i64 x169003_2, .int .i64 x169004_2] 30 (0, 0)) (by (with_reducible repeat (first | refine blk_drewN ?_ _ | refine blk_drew ?_ | refine blk_alloc ?_ _)); exact BK168.out)) : gb184 ≠ gb168)); clear HO_4; clear HO_7; clear BK168; clear HB; have HO_4 := n0_; have HO_7 := n1_; have BK168 := n2_; have HB := n3_; have BK184 := n4_; have GW184 := n5_; have GE184 := n6_; have NB168_184 := n7_; have NB184_168 := n8_; clear n0_ n1_ n2_ n3_ n4_ n5_ n6_ n7_ n8_; clear hb hbox hg; have hnb36 := NB184_168.out; have hnc36 := NB168_184.out; have hcz37_0 : w35.cell? ⟨gb184, 0, none⟩ = some (.int .i64 0) := (blk_cell BK184.out 0).trans rfl; have hcz37_1 : w35.cell? ⟨gb184, 1, none⟩ = some (.int .i64 0) := (blk_cell BK184.out 1).trans rfl; have hcz37_2 : w35.cell? ⟨gb184, 2, none⟩ = some (.int .i64 0) := (blk_cell BK184.out 2).trans rfl; have hcz37_3 : w35.cell? ⟨gb184, 3, none⟩ = some (.int .i64 0) := (blk_cell BK184.out 3).trans rfl; have hcz37_4 : w35.cell? ⟨gb184, 4, none⟩ = some (.int .i64 0) := (blk_cell BK184.out 4).trans rfl; have hfz37_0 := blk_frozen BK184.out 0; have hfz37_1 := blk_frozen BK184.out 1; have hfz37_2 := blk_frozen BK184.out 2; have hfz37_3 := blk_frozen BK184.out 3; have hfz37_4 := blk_frozen BK184.out 4))
                      repeat (go_quiet (first | ((with_reducible refine gate_dst (N := 9) rfl ?_); (try (refine gate_guard (by rfl) ?_; dsimp only)); refine box_event ?hg (N := 9) ?hd (cs := #[.int .i64 0, .int .i64 0, .int .i64 0, .int .i64 0, .int .i64 0]) (t := 30) ?hr ?_; (case hd => rfl); (case hg => rfl); (case hr => first | (go_simp; done) | (go_simp; rfl)); intro gb184 hg w35 hbox hb; have n0_ := Aside0.mk (Kd.R_below (by (with_reducible repeat (first | apply Kd.R_alloc | apply Kd.R_drewN | apply Kd.R_drew)); exact HO_4.out) hb); have n1_ := Aside0.mk (Kd.R_below (by (with_reducible repeat (first | apply Kd.R_alloc | apply Kd.R_drewN | apply Kd.R_drew)); exact HO_7.out) hb); have n2_ := Aside0.mk (blk_below (g := gb168) (o := .cells #[.int .i64 x169000_2, .int .i64 x169001_2, .int .i64 x169002_2, .int .i64 x169003_2, .int .i64 x169004_2] 30 (0, 0)) (by (with_reducible repeat (first | refine blk_drewN ?_ _ | refine blk_drew ?_ | refine blk_alloc ?_ _)); exact BK168.out) hb); have n3_ := Aside0.mk (below_step (by repeat (first | (with_reducible first | exact HB.out | apply below_alloc | apply pw_below_drewN | apply below_drew1 | refine below_set ?_ GE168.out) | exact HB.out)) hb); have n4_ := Aside0.mk (hbox); have n5_ := Aside0.mk ((by rw [hg]; exact (below_size (by repeat (first | (with_reducible first | exact HB.out | apply below_alloc | apply pw_below_drewN | apply below_drew1 | refine below_set ?_ GE168.out) | exact HB.out))) : w.heap.size ≤ gb184)); have n6_ := Aside0.mk ((by rw [hg]; exact (below_size (by repeat (first | (with_reducible first | exact HB.out | apply below_alloc | apply pw_below_drewN | apply below_drew1 | refine below_set ?_ GE168.out) | exact HB.out))) : w.heap.size ≤ gb184)); have n7_ := Aside0.mk ((by rw [hg]; exact Nat.ne_of_lt (blk_lt (g := gb168) (o := .cells #[.int .i64 x169000_2, .int .i64 x169001_2, .int .i64 x169002_2, .int .i64 x169003_2, .int .i64 x169004_2] 30 (0, 0)) (by (with_reducible repeat (first | refine blk_drewN ?_ _ | refine blk_drew ?_ | refine blk_alloc ?_ _)); exact BK168.out)) : gb168 ≠ gb184)); have n8_ := Aside0.mk ((by rw [hg]; exact Nat.ne_of_gt (blk_lt (g := gb168) (o := .cells #[.int .i64 x169000_2, .int .i64 x169001_2, .int .i64 x169002_2, .int .i64 x169003_2, .int .i64 x169004_2] 30 (0, 0)) (by (with_reducible repeat (first | refine blk_drewN ?_ _ | refine blk_drew ?_ | refine blk_alloc ?_ _)); exact BK168.out)) : gb184 ≠ gb168)); clear HO_4; clear HO_7; clear BK168; clear HB; have HO_4 := n0_; have HO_7 := n1_; have BK168 := n2_; have HB := n3_; have BK184 := n4_; have GW184 := n5_; have GE184 := n6_; have NB168_184 := n7_; have NB184_168 := n8_; clear n0_ n1_ n2_ n3_ n4_ n5_ n6_ n7_ n8_; clear hb hbox hg; have hnb36 := NB184_168.out; have hnc36 := NB168_184.out; have hcz37_0 : w35.cell? ⟨gb184, 0, none⟩ = some (.int .i64 0) := (blk_cell BK184.out 0).trans rfl; have hcz37_1 : w35.cell? ⟨gb184, 1, none⟩ = some (.int .i64 0) := (blk_cell BK184.out 1).trans rfl; have hcz37_2 : w35.cell? ⟨gb184, 2, none⟩ = some (.int .i64 0) := (blk_cell BK184.out 2).trans rfl; have hcz37_3 : w35.cell? ⟨gb184, 3, none⟩ = some (.int .i64 0) := (blk_cell BK184.out 3).trans rfl; have hcz37_4 : w35.cell? ⟨gb184, 4, none⟩ = some (.int .i64 0) := (blk_cell BK184.out 4).trans rfl; have hfz37_0 := blk_frozen BK184.out 0; have hfz37_1 := blk_frozen BK184.out 1; have hfz37_2 := blk_frozen BK184.out 2; have hfz37_3 := blk_frozen BK184.out 3; have hfz37_4 := blk_frozen BK184.out 4)); try go_wp2_with (first | ((with_reducible refine gate_dst (N := 9) rfl ?_); (try (refine gate_guard (by rfl) ?_; dsimp only)); refine box_event ?hg (N := 9) ?hd (cs := #[.int .i64 0, .int .i64 0, .int .i64 0, .int .i64 0, .int .i64 0]) (t := 30) ?hr ?_; (case hd => rfl); (case hg => rfl); (case hr => first | (go_simp; done) | (go_simp; rfl)); intro gb184 hg w35 hbox hb; have n0_ := Aside0.mk (Kd.R_below (by (with_reducible repeat (first | apply Kd.R_alloc | apply Kd.R_drewN | apply Kd.R_drew)); exact HO_4.out) hb); have n1_ := Aside0.mk (Kd.R_below (by (with_reducible repeat (first | apply Kd.R_alloc | apply Kd.R_drewN | apply Kd.R_drew)); exact HO_7.out) hb); have n2_ := Aside0.mk (blk_below (g := gb168) (o := .cells #[.int .i64 x169000_2, .int .i64 x169001_2, .int .i64 x169002_2, .int .i64 x169003_2, .int .i64 x169004_2] 30 (0, 0)) (by (with_reducible repeat (first | refine blk_drewN ?_ _ | refine blk_drew ?_ | refine blk_alloc ?_ _)); exact BK168.out) hb); have n3_ := Aside0.mk (below_step (by repeat (first | (with_reducible first | exact HB.out | apply below_alloc | apply pw_below_drewN | apply below_drew1 | refine below_set ?_ GE168.out) | exact HB.out)) hb); have n4_ := Aside0.mk (hbox); have n5_ := Aside0.mk ((by rw [hg]; exact (below_size (by repeat (first | (with_reducible first | exact HB.out | apply below_alloc | apply pw_below_drewN | apply below_drew1 | refine below_set ?_ GE168.out) | exact HB.out))) : w.heap.size ≤ gb184)); have n6_ := Aside0.mk ((by rw [hg]; exact (below_size (by repeat (first | (with_reducible first | exact HB.out | apply below_alloc | apply pw_below_drewN | apply below_drew1 | refine below_set ?_ GE168.out) | exact HB.out))) : w.heap.size ≤ gb184)); have n7_ := Aside0.mk ((by rw [hg]; exact Nat.ne_of_lt (blk_lt (g := gb168) (o := .cells #[.int .i64 x169000_2, .int .i64 x169001_2, .int .i64 x169002_2, .int .i64 x169003_2, .int .i64 x169004_2] 30 (0, 0)) (by (with_reducible repeat (first | refine blk_drewN ?_ _ | refine blk_drew ?_ | refine blk_alloc ?_ _)); exact BK168.out)) : gb168 ≠ gb184)); have n8_ := Aside0.mk ((by rw [hg]; exact Nat.ne_of_gt (blk_lt (g := gb168) (o := .cells #[.int .i64 x169000_2, .int .i64 x169001_2, .int .i64 x169002_2, .int .i64 x169003_2, .int .i64 x169004_2] 30 (0, 0)) (by (with_reducible repeat (first | refine blk_drewN ?_ _ | refine blk_drew ?_ | refine blk_alloc ?_ _)); exact BK168.out)) : gb184 ≠ gb168)); clear HO_4; clear HO_7; clear BK168; clear HB; have HO_4 := n0_; have HO_7 := n1_; have BK168 := n2_; have HB := n3_; have BK184 := n4_; have GW184 := n5_; have GE184 := n6_; have NB168_184 := n7_; have NB184_168 := n8_; clear n0_ n1_ n2_ n3_ n4_ n5_ n6_ n7_ n8_; clear hb hbox hg; have hnb36 := NB184_168.out; have hnc36 := NB168_184.out; have hcz37_0 : w35.cell? ⟨gb184, 0, none⟩ = some (.int .i64 0) := (blk_cell BK184.out 0).trans rfl; have hcz37_1 : w35.cell? ⟨gb184, 1, none⟩ = some (.int .i64 0) := (blk_cell BK184.out 1).trans rfl; have hcz37_2 : w35.cell? ⟨gb184, 2, none⟩ = some (.int .i64 0) := (blk_cell BK184.out 2).trans rfl; have hcz37_3 : w35.cell? ⟨gb184, 3, none⟩ = some (.int .i64 0) := (blk_cell BK184.out 3).trans rfl; have hcz37_4 : w35.cell? ⟨gb184, 4, none⟩ = some (.int .i64 0) := (blk_cell BK184.out 4).trans rfl; have hfz37_0 := blk_frozen BK184.out 0; have hfz37_1 := blk_frozen BK184.out 1; have hfz37_2 := blk_frozen BK184.out 2; have hfz37_3 := blk_frozen BK184.out 3; have hfz37_4 := blk_frozen BK184.out 4)))
                      go_loopg [10] kj26 (fun kq v10 w' => ∃ (x10_4 : Int) (x185001_4 : Int) (x185002_4 : Int) (x185003_4 : Int) (x185004_4 : Int), v10 = .int .i64 x10_4 ∧ Aside0 (kindlingref03_Parse.l2 kq a0 y175 t178 x8_2 x10_4 x8_2 x185001_4 x185002_4 x185003_4 x185004_4 = some (r1, r2, r3, r4, r5, r6)) ∧ Aside0 (kq ≤ kj26) ∧ Aside0 (Kd.R Kd.string 9 w' w.heap.size (fun _ => True) v176 y175) ∧ Aside0 (Kd.R k23 23 w' w.heap.size (fun _ => True) (.slice Ao28 t178.length co28) t178) ∧ Aside0 (w'.heap[gb168]? = some (.cells #[.int .i64 x169000_2, .int .i64 x169001_2, .int .i64 x169002_2, .int .i64 x169003_2, .int .i64 x169004_2] 30 (0, 0))) ∧ Aside0 (w'.heap[gb184]? = some (.cells #[.int .i64 x8_2, .int .i64 x185001_4, .int .i64 x185002_4, .int .i64 x185003_4, .int .i64 x185004_4] 30 (0, 0))) ∧ Aside0 (Below w.heap.size w w'))
                      case atStart => exact ⟨(1), (0), (0), (0), (0), (by first | rfl | (simp; done) | (simp [*]; done)), H', ⟨Nat.le_refl _⟩, ⟨by (with_reducible repeat (first | apply Kd.R_alloc | apply Kd.R_drewN | apply Kd.R_drew)); exact Kd.R_mono (Kd.R_far (p := ⟨gb184, 4, none⟩) (Kd.R_far (p := ⟨gb184, 3, none⟩) (Kd.R_far (p := ⟨gb184, 2, none⟩) (Kd.R_far (p := ⟨gb184, 1, none⟩) (Kd.R_far (p := ⟨gb184, 0, none⟩) (Kd.R_types HO_4.out BK184.out (by decide)) (fun _ hk => hk.2) (.int .i64 x8_2)) (fun _ hk => hk.2) (.int .i64 0)) (fun _ hk => hk.2) (.int .i64 0)) (fun _ hk => hk.2) (.int .i64 0)) (fun _ hk => hk.2) (.int .i64 0)) (fun _ hk => trivial)⟩, ⟨by (with_reducible repeat (first | apply Kd.R_alloc | apply Kd.R_drewN | apply Kd.R_drew)); exact Kd.R_mono (Kd.R_far (p := ⟨gb184, 4, none⟩) (Kd.R_far (p := ⟨gb184, 3, none⟩) (Kd.R_far (p := ⟨gb184, 2, none⟩) (Kd.R_far (p := ⟨gb184, 1, none⟩) (Kd.R_far (p := ⟨gb184, 0, none⟩) (Kd.R_types HO_7.out BK184.out (by decide)) (fun _ hk => hk.2) (.int .i64 x8_2)) (fun _ hk => hk.2) (.int .i64 0)) (fun _ hk => hk.2) (.int .i64 0)) (fun _ hk => hk.2) (.int .i64 0)) (fun _ hk => hk.2) (.int .i64 0)) (fun _ hk => trivial)⟩, ⟨by (with_reducible repeat (first | refine blk_drewN ?_ _ | refine blk_drew ?_ | refine blk_alloc ?_ _)); refine blk_far ?_ NB168_184.out _; (with_reducible repeat (first | refine blk_drewN ?_ _ | refine blk_drew ?_ | refine blk_alloc ?_ _)); refine blk_far ?_ NB168_184.out _; (with_reducible repeat (first | refine blk_drewN ?_ _ | refine blk_drew ?_ | refine blk_alloc ?_ _)); refine blk_far ?_ NB168_184.out _; (with_reducible repeat (first | refine blk_drewN ?_ _ | refine blk_drew ?_ | refine blk_alloc ?_ _)); refine blk_far ?_ NB168_184.out _; (with_reducible repeat (first | refine blk_drewN ?_ _ | refine blk_drew ?_ | refine blk_alloc ?_ _)); refine blk_far ?_ NB168_184.out _; (with_reducible repeat (first | refine blk_drewN ?_ _ | refine blk_drew ?_ | refine blk_alloc ?_ _)); exact BK168.out⟩, ⟨by (with_reducible repeat (first | refine blk_drewN ?_ _ | refine blk_drew ?_ | refine blk_alloc ?_ _)); refine blk_put (cs := #[.int .i64 x8_2, .int .i64 0, .int .i64 0, .int .i64 0, .int .i64 0]) ?_ 4 _ rfl; (with_reducible repeat (first | refine blk_drewN ?_ _ | refine blk_drew ?_ | refine blk_alloc ?_ _)); refine blk_put (cs := #[.int .i64 x8_2, .int .i64 0, .int .i64 0, .int .i64 0, .int .i64 0]) ?_ 3 _ rfl; (with_reducible repeat (first | refine blk_drewN ?_ _ | refine blk_drew ?_ | refine blk_alloc ?_ _)); refine blk_put (cs := #[.int .i64 x8_2, .int .i64 0, .int .i64 0, .int .i64 0, .int .i64 0]) ?_ 2 _ rfl; (with_reducible repeat (first | refine blk_drewN ?_ _ | refine blk_drew ?_ | refine blk_alloc ?_ _)); refine blk_put (cs := #[.int .i64 x8_2, .int .i64 0, .int .i64 0, .int .i64 0, .int .i64 0]) ?_ 1 _ rfl; (with_reducible repeat (first | refine blk_drewN ?_ _ | refine blk_drew ?_ | refine blk_alloc ?_ _)); refine blk_put (cs := #[.int .i64 0, .int .i64 0, .int .i64 0, .int .i64 0, .int .i64 0]) ?_ 0 _ rfl; (with_reducible repeat (first | refine blk_drewN ?_ _ | refine blk_drew ?_ | refine blk_alloc ?_ _)); exact BK184.out⟩, ⟨by repeat (first | (with_reducible first | exact HB.out | apply below_alloc | apply pw_below_drewN | apply below_drew1 | refine below_set ?_ GE168.out | refine below_set ?_ GE184.out) | exact HB.out)⟩⟩
                      case round =>
                        clear H'
                        try clear c1
                        try clear p1
                        try clear q1
                        try clear hx1
                        try clear hcv1
                        try clear qi1
                        try clear c2
                        try clear p2
                        try clear hcv2
                        try clear c3
                        try clear c3b0
                        try clear c4
                        try clear c4b0
                        try clear p5
                        try clear q5
                        try clear hx5
                        try clear c6
                        try clear c6b0
                        try clear c6b1
                        try clear p6
                        try clear c7
                        try clear c8
                        try clear c8b0
                        try clear p12
                        try clear q12
                        try clear hx12
                        try clear c13
                        try clear c13b0
                        try clear c13b1
                        try clear c13b2
                        try clear c14
                        try clear c14b0
                        try clear c14b1
                        try clear hcv17
                        try clear p18
                        try clear q18
                        try clear hx18
                        try clear qi18
                        try clear hcv21
                        try clear c22
                        try clear c26
                        try clear c26b0
                        try clear c29
                        try clear c29b0
                        try clear c30
                        try clear c30b0
                        try clear c30b1
                        try clear c31
                        try clear c31b0
                        try clear c31b1
                        try clear c32
                        try clear c34
                        try clear c36
                        try clear hcz10_0
                        try clear hcz10_1
                        try clear hcz10_2
                        try clear hcz10_3
                        try clear hcz10_4
                        try clear hcz18_0
                        try clear hcz18_1
                        try clear hcz18_2
                        try clear hcz18_3
                        try clear hcz18_4
                        try clear hcz37_0
                        try clear hcz37_1
                        try clear hcz37_2
                        try clear hcz37_3
                        try clear hcz37_4
                        try clear hfz10_0
                        try clear hfz10_1
                        try clear hfz10_2
                        try clear hfz10_3
                        try clear hfz10_4
                        try clear hfz18_0
                        try clear hfz18_1
                        try clear hfz18_2
                        try clear hfz18_3
                        try clear hfz18_4
                        try clear hfz37_0
                        try clear hfz37_1
                        try clear hfz37_2
                        try clear hfz37_3
                        try clear hfz37_4
                        try clear hx181_0
                        try clear hx181_1
                        try clear hx181_2
                        try clear hx181_3
                        try clear hx182_0
                        try clear hx183_0
                        try clear hx183_1
                        try clear hx183_2
                        try clear hx183_3
                        try clear p1
                        try clear p12
                        try clear p18
                        try clear p181
                        try clear p182
                        try clear p183
                        try clear p2
                        try clear p5
                        try clear p6
                        try clear q1
                        try clear q12
                        try clear q18
                        try clear q181
                        try clear q182
                        try clear q183
                        try clear q5
                        obtain ⟨x10_4, x185001_4, x185002_4, x185003_4, x185004_4, rfl, HA, HK4, HO_4, HO_7, BK168, BK184, HB⟩ := hrel
                        cases gk with
                        | zero => exact absurd HA.out (by simp [kindlingref03_Parse.l2])
                        | succ k4 =>
                          have H := HA.out
                          clear HA
                          simp only [kindlingref03_Parse.l2] at H
                          by_cases c38 : x10_4 < (y175.length : Int)
                          · rw [if_pos c38] at H
                            have c38b0 : decide (x10_4 < (y175.length : Int)) = true := decide_eq_true c38
                            clear c38
                            by_cases c39 : 0 ≤ x10_4
                            · rw [if_pos c39] at H
                              have c39b0 : decide (0 ≤ x10_4) = true := decide_eq_true c39
                              clear c39
                              have HC40 := Aside0.mk H
                              clear H
                              obtain ⟨Ao41, co41, eo41⟩ := Kd.R_slice HO_4.out
                              subst eo41
                              have p186 : 0 ≤ (x10_4 : Int) := of_decide_eq_true (by first | (with_reducible assumption) | assumption)
                              have q186 : x10_4 < (y175.length : Int) := of_decide_eq_true (by first | (with_reducible assumption) | assumption)
                              obtain ⟨ad186, e186, hx186_0⟩ := Kd.at_string (Kd.R_reads' HO_4.out).2.2 x10_4 p186 q186
                              cases e186
                              replace p186 := eq_true p186
                              replace q186 := eq_true q186
                              go_upto_region 23 with (fail)
                              repeat (go_quiet (fail); go_upto_region 23 with (fail))
                              go_cut [90] (fun v90 wc => ∃ (kq : Nat) (x90_39 : Bool), v90 = .bool x90_39 ∧ Aside0 (kindlingref03_Parse.j4 kq a0 y175 t178 x8_2 x10_4 (rdOf ByteArray.empty y175 x10_4) x90_39 x8_2 x185001_4 x185002_4 x185003_4 x185004_4 = some (r1, r2, r3, r4, r5, r6)) ∧ Aside0 (kq ≤ k4) ∧ Aside0 (Kd.R Kd.string 9 wc w.heap.size (fun _ => True) (.slice (some ad186) y175.length co41) y175) ∧ Aside0 (Kd.R k23 23 wc w.heap.size (fun _ => True) (.slice Ao28 t178.length co28) t178) ∧ Aside0 (wc.heap[gb168]? = some (.cells #[.int .i64 x169000_2, .int .i64 x169001_2, .int .i64 x169002_2, .int .i64 x169003_2, .int .i64 x169004_2] 30 (0, 0))) ∧ Aside0 (wc.heap[gb184]? = some (.cells #[.int .i64 x8_2, .int .i64 x185001_4, .int .i64 x185002_4, .int .i64 x185003_4, .int .i64 x185004_4] 30 (0, 0))) ∧ Aside0 (Below w.heap.size w wc))
                              case first =>
                                have H := HC40.out
                                clear HC40
                                by_cases c42 : ((rdOf ByteArray.empty y175 x10_4).size : Int) > 0
                                · rw [if_pos c42] at H
                                  have c42b0 : decide (0 < ((rdOf ByteArray.empty y175 x10_4).size : Int)) = true := decide_eq_true c42
                                  have c42b1 : decide (0 < (rdOf ByteArray.empty y175 x10_4).size) = true := decide_eq_true (by omega)
                                  clear c42
                                  (first | rw [c42b0] | (simp only [i64_w, i32_w]; rw [c42b0]) | skip)
                                  by_cases c43 : 0 < ((rdOf ByteArray.empty y175 x10_4).size : Int)
                                  · rw [if_pos c43] at H
                                    have c43b0 : decide (0 < ((rdOf ByteArray.empty y175 x10_4).size : Int)) = true := decide_eq_true c43
                                    have c43b1 : decide (0 < (rdOf ByteArray.empty y175 x10_4).size) = true := decide_eq_true (by omega)
                                    clear c43
                                    have H' := Aside0.mk H
                                    clear H
                                    have p44 : 0 ≤ (0 : Int) := (by omega)
                                    have q44 : 0 < (rdOf ByteArray.empty y175 x10_4).size := (by have : (0 : Int) < ((rdOf ByteArray.empty y175 x10_4).size : Int) := of_decide_eq_true (by first | (with_reducible assumption) | assumption); omega)
                                    have hx44 : ∀ h : 0 < (rdOf ByteArray.empty y175 x10_4).size, (((rdOf ByteArray.empty y175 x10_4)[0]'h).toNat : Int) = bt (rdOf ByteArray.empty y175 x10_4) 0 := bt_at (rdOf ByteArray.empty y175 x10_4) 0
                                    clear p44
                                    have qi44 : (0 < ((rdOf ByteArray.empty y175 x10_4).size : Int)) = True := eq_true (of_decide_eq_true (by first | (with_reducible assumption) | assumption))
                                    replace q44 := eq_true q44
                                    go_wp2
                                    repeat (go_quiet (fail); try go_wp2)
                                    go_meet
                                    case rel => exact ⟨_, (((bt (rdOf ByteArray.empty y175 x10_4) 0) == 114)), (by first | rfl | (simp; done) | (simp [*]; done)), H', ⟨by have := HK1.out; have := HK2.out; have := HJ26.out; have := HK4.out; first | omega | exact Nat.le_refl _⟩, ⟨by (with_reducible repeat (first | apply Kd.R_alloc | apply Kd.R_drewN | apply Kd.R_drew)); exact HO_4.out⟩, ⟨by (with_reducible repeat (first | apply Kd.R_alloc | apply Kd.R_drewN | apply Kd.R_drew)); exact HO_7.out⟩, ⟨by (with_reducible repeat (first | refine blk_drewN ?_ _ | refine blk_drew ?_ | refine blk_alloc ?_ _)); exact BK168.out⟩, ⟨by (with_reducible repeat (first | refine blk_drewN ?_ _ | refine blk_drew ?_ | refine blk_alloc ?_ _)); exact BK184.out⟩, ⟨by repeat (first | (with_reducible first | exact HB.out | apply below_alloc | apply pw_below_drewN | apply below_drew1 | refine below_set ?_ GE168.out | refine below_set ?_ GE184.out) | exact HB.out)⟩⟩
                                  · rw [if_neg c43] at H
                                    exact absurd H (by simp)
                                · rw [if_neg c42] at H
                                  have c42b0 : decide (0 < ((rdOf ByteArray.empty y175 x10_4).size : Int)) = false := decide_eq_false c42
                                  have c42b1 : decide (0 < (rdOf ByteArray.empty y175 x10_4).size) = false := decide_eq_false (by omega)
                                  clear c42
                                  (first | rw [c42b0] | (simp only [i64_w, i32_w]; rw [c42b0]) | skip)
                                  have H' := Aside0.mk H
                                  clear H
                                  go_wp2
                                  repeat (go_quiet (fail); try go_wp2)
                                  go_meet
                                  case rel => exact ⟨_, (false), (by first | rfl | (simp; done) | (simp [*]; done)), H', ⟨by have := HK1.out; have := HK2.out; have := HJ26.out; have := HK4.out; first | omega | exact Nat.le_refl _⟩, ⟨by (with_reducible repeat (first | apply Kd.R_alloc | apply Kd.R_drewN | apply Kd.R_drew)); exact HO_4.out⟩, ⟨by (with_reducible repeat (first | apply Kd.R_alloc | apply Kd.R_drewN | apply Kd.R_drew)); exact HO_7.out⟩, ⟨by (with_reducible repeat (first | refine blk_drewN ?_ _ | refine blk_drew ?_ | refine blk_alloc ?_ _)); exact BK168.out⟩, ⟨by (with_reducible repeat (first | refine blk_drewN ?_ _ | refine blk_drew ?_ | refine blk_alloc ?_ _)); exact BK184.out⟩, ⟨by repeat (first | (with_reducible first | exact HB.out | apply below_alloc | apply pw_below_drewN | apply below_drew1 | refine below_set ?_ GE168.out | refine below_set ?_ GE184.out) | exact HB.out)⟩⟩
                              case rest =>
                                clear HC40
                                try clear c1
                                try clear p1
                                try clear q1
                                try clear hx1
                                try clear hcv1
                                try clear qi1
                                try clear c2
                                try clear p2
                                try clear hcv2
                                try clear c3
                                try clear c3b0
                                try clear c4
                                try clear c4b0
                                try clear p4
                                try clear q4
                                try clear hx4
                                try clear qi4
                                try clear p5
                                try clear q5
                                try clear hx5
                                try clear c6
                                try clear c6b0
                                try clear c6b1
                                try clear p6
                                try clear c7
                                try clear c8
                                try clear c8b0
                                try clear p12
                                try clear q12
                                try clear hx12
                                try clear c13
                                try clear c13b0
                                try clear c13b1
                                try clear c13b2
                                try clear c14
                                try clear c14b0
                                try clear c14b1
                                try clear hcv17
                                try clear p18
                                try clear q18
                                try clear hx18
                                try clear qi18
                                try clear hcv21
                                try clear c22
                                try clear c26
                                try clear c26b0
                                try clear c29
                                try clear c29b0
                                try clear c30
                                try clear c30b0
                                try clear c30b1
                                try clear c31
                                try clear c31b0
                                try clear c31b1
                                try clear c32
                                try clear c34
                                try clear c36
                                try clear c38
                                try clear c38b0
                                try clear c39
                                try clear c39b0
                                try clear c42
                                try clear c42b0
                                try clear c42b1
                                try clear c43
                                try clear c43b0
                                try clear c43b1
                                try clear p44
                                try clear q44
                                try clear hx44
                                try clear qi44
                                try clear hcz10_0
                                try clear hcz10_1
                                try clear hcz10_2
                                try clear hcz10_3
                                try clear hcz10_4
                                try clear hcz18_0
                                try clear hcz18_1
                                try clear hcz18_2
                                try clear hcz18_3
                                try clear hcz18_4
                                try clear hcz37_0
                                try clear hcz37_1
                                try clear hcz37_2
                                try clear hcz37_3
                                try clear hcz37_4
                                try clear hfz10_0
                                try clear hfz10_1
                                try clear hfz10_2
                                try clear hfz10_3
                                try clear hfz10_4
                                try clear hfz18_0
                                try clear hfz18_1
                                try clear hfz18_2
                                try clear hfz18_3
                                try clear hfz18_4
                                try clear hfz37_0
                                try clear hfz37_1
                                try clear hfz37_2
                                try clear hfz37_3
                                try clear hfz37_4
                                try clear hx181_0
                                try clear hx181_1
                                try clear hx181_2
                                try clear hx181_3
                                try clear hx182_0
                                try clear hx183_0
                                try clear hx183_1
                                try clear hx183_2
                                try clear hx183_3
                                try clear hx186_0
                                try clear p1
                                try clear p12
                                try clear p18
                                try clear p181
                                try clear p182
                                try clear p183
                                try clear p186
                                try clear p2
                                try clear p44
                                try clear p5
                                try clear p6
                                try clear q1
                                try clear q12
                                try clear q18
                                try clear q181
                                try clear q182
                                try clear q183
                                try clear q186
                                try clear q44
                                try clear q5
                                obtain ⟨kq, x90_39, rfl, HA, HJ39, HO_4, HO_7, BK168, BK184, HB⟩ := hcut
                                cases kq with
                                | zero => exact absurd HA.out (by simp [kindlingref03_Parse.j4])
                                | succ kj39 =>
                                  have H := HA.out
                                  clear HA
                                  simp only [kindlingref03_Parse.j4] at H
                                  have HC45 := Aside0.mk H
                                  clear H
                                  go_upto_if 90 with (fail)
                                  repeat (go_quiet (fail); go_upto_if 90 with (fail))
                                  go_cut [11] (fun v11 wc => ∃ (kq : Nat) (x11_44 : ByteArray), v11 = .string x11_44 ∧ Aside0 (kindlingref03_Parse.j5 kq a0 y175 t178 x8_2 x10_4 x11_44 x8_2 x185001_4 x185002_4 x185003_4 x185004_4 = some (r1, r2, r3, r4, r5, r6)) ∧ Aside0 (kq ≤ kj39) ∧ Aside0 (Kd.R Kd.string 9 wc w.heap.size (fun _ => True) (.slice (some ad186) y175.length co41) y175) ∧ Aside0 (Kd.R k23 23 wc w.heap.size (fun _ => True) (.slice Ao28 t178.length co28) t178) ∧ Aside0 (wc.heap[gb168]? = some (.cells #[.int .i64 x169000_2, .int .i64 x169001_2, .int .i64 x169002_2, .int .i64 x169003_2, .int .i64 x169004_2] 30 (0, 0))) ∧ Aside0 (wc.heap[gb184]? = some (.cells #[.int .i64 x8_2, .int .i64 x185001_4, .int .i64 x185002_4, .int .i64 x185003_4, .int .i64 x185004_4] 30 (0, 0))) ∧ Aside0 (Below w.heap.size w wc))
                                  case first =>
                                    have H := HC45.out
                                    clear HC45
                                    by_cases c46 : x90_39 = true
                                    · subst c46
                                      have H1 : (if 1 ≤ ((rdOf ByteArray.empty y175 x10_4).size : Int) then (kindlingref03_Parse.j5 kj39 a0 y175 t178 x8_2 x10_4 ((rdOf ByteArray.empty y175 x10_4).extract 1 (rdOf ByteArray.empty y175 x10_4).size) x8_2 x185001_4 x185002_4 x185003_4 x185004_4) else (none)) = some (r1, r2, r3, r4, r5, r6) := by rw [if_pos rfl] at H; exact H
                                      clear H
                                      have H := H1
                                      clear H1
                                      by_cases c47 : 1 ≤ ((rdOf ByteArray.empty y175 x10_4).size : Int)
                                      · rw [if_pos c47] at H
                                        have c47b0 := eq_true c47
                                        have c47b1 : decide (1 ≤ ((rdOf ByteArray.empty y175 x10_4).size : Int)) = true := decide_eq_true c47
                                        clear c47
                                        have H' := Aside0.mk H
                                        clear H
                                        go_wp2
                                        repeat (go_quiet (fail); try go_wp2)
                                        go_meet
                                        case rel => exact ⟨_, ((rdOf ByteArray.empty y175 x10_4).extract 1 (rdOf ByteArray.empty y175 x10_4).size), (by first | rfl | (simp; done) | (simp [*]; done)), H', ⟨by have := HK1.out; have := HK2.out; have := HJ26.out; have := HK4.out; have := HJ39.out; first | omega | exact Nat.le_refl _⟩, ⟨by (with_reducible repeat (first | apply Kd.R_alloc | apply Kd.R_drewN | apply Kd.R_drew)); exact HO_4.out⟩, ⟨by (with_reducible repeat (first | apply Kd.R_alloc | apply Kd.R_drewN | apply Kd.R_drew)); exact HO_7.out⟩, ⟨by (with_reducible repeat (first | refine blk_drewN ?_ _ | refine blk_drew ?_ | refine blk_alloc ?_ _)); exact BK168.out⟩, ⟨by (with_reducible repeat (first | refine blk_drewN ?_ _ | refine blk_drew ?_ | refine blk_alloc ?_ _)); exact BK184.out⟩, ⟨by repeat (first | (with_reducible first | exact HB.out | apply below_alloc | apply pw_below_drewN | apply below_drew1 | refine below_set ?_ GE168.out | refine below_set ?_ GE184.out) | exact HB.out)⟩⟩
                                      · rw [if_neg c47] at H
                                        exact absurd H (by simp)
                                    · replace c46 := Bool.eq_false_iff.mpr c46
                                      subst c46
                                      have H1 : (kindlingref03_Parse.j5 kj39 a0 y175 t178 x8_2 x10_4 (rdOf ByteArray.empty y175 x10_4) x8_2 x185001_4 x185002_4 x185003_4 x185004_4) = some (r1, r2, r3, r4, r5, r6) := by rw [if_neg (show ¬ (false = true) by decide)] at H; exact H
                                      clear H
                                      have H := H1
                                      clear H1
                                      have H' := Aside0.mk H
                                      clear H
                                      go_wp2
                                      repeat (go_quiet (fail); try go_wp2)
                                      go_meet
                                      case rel => exact ⟨_, ((rdOf ByteArray.empty y175 x10_4)), (by first | rfl | (simp; done) | (simp [*]; done)), H', ⟨by have := HK1.out; have := HK2.out; have := HJ26.out; have := HK4.out; have := HJ39.out; first | omega | exact Nat.le_refl _⟩, ⟨by (with_reducible repeat (first | apply Kd.R_alloc | apply Kd.R_drewN | apply Kd.R_drew)); exact HO_4.out⟩, ⟨by (with_reducible repeat (first | apply Kd.R_alloc | apply Kd.R_drewN | apply Kd.R_drew)); exact HO_7.out⟩, ⟨by (with_reducible repeat (first | refine blk_drewN ?_ _ | refine blk_drew ?_ | refine blk_alloc ?_ _)); exact BK168.out⟩, ⟨by (with_reducible repeat (first | refine blk_drewN ?_ _ | refine blk_drew ?_ | refine blk_alloc ?_ _)); exact BK184.out⟩, ⟨by repeat (first | (with_reducible first | exact HB.out | apply below_alloc | apply pw_below_drewN | apply below_drew1 | refine below_set ?_ GE168.out | refine below_set ?_ GE184.out) | exact HB.out)⟩⟩
                                  case rest =>
                                    clear HC45
                                    try clear c1
                                    try clear p1
                                    try clear q1
                                    try clear hx1
                                    try clear hcv1
                                    try clear qi1
                                    try clear c2
                                    try clear p2
                                    try clear hcv2
                                    try clear c3
                                    try clear c3b0
                                    try clear c4
                                    try clear c4b0
                                    try clear p4
                                    try clear q4
                                    try clear hx4
                                    try clear qi4
                                    try clear p5
                                    try clear q5
                                    try clear hx5
                                    try clear c6
                                    try clear c6b0
                                    try clear c6b1
                                    try clear p6
                                    try clear c7
                                    try clear c8
                                    try clear c8b0
                                    try clear p12
                                    try clear q12
                                    try clear hx12
                                    try clear c13
                                    try clear c13b0
                                    try clear c13b1
                                    try clear c13b2
                                    try clear c14
                                    try clear c14b0
                                    try clear c14b1
                                    try clear hcv17
                                    try clear p18
                                    try clear q18
                                    try clear hx18
                                    try clear qi18
                                    try clear hcv21
                                    try clear c22
                                    try clear c26
                                    try clear c26b0
                                    try clear c29
                                    try clear c29b0
                                    try clear c30
                                    try clear c30b0
                                    try clear c30b1
                                    try clear c31
                                    try clear c31b0
                                    try clear c31b1
                                    try clear c32
                                    try clear c34
                                    try clear c36
                                    try clear c38
                                    try clear c38b0
                                    try clear c39
                                    try clear c39b0
                                    try clear c42
                                    try clear c42b0
                                    try clear c42b1
                                    try clear c43
                                    try clear c43b0
                                    try clear c43b1
                                    try clear p44
                                    try clear q44
                                    try clear hx44
                                    try clear qi44
                                    try clear c46
                                    try clear c47
                                    try clear c47b0
                                    try clear c47b1
                                    try clear hcz10_0
                                    try clear hcz10_1
                                    try clear hcz10_2
                                    try clear hcz10_3
                                    try clear hcz10_4
                                    try clear hcz18_0
                                    try clear hcz18_1
                                    try clear hcz18_2
                                    try clear hcz18_3
                                    try clear hcz18_4
                                    try clear hcz37_0
                                    try clear hcz37_1
                                    try clear hcz37_2
                                    try clear hcz37_3
                                    try clear hcz37_4
                                    try clear hfz10_0
                                    try clear hfz10_1
                                    try clear hfz10_2
                                    try clear hfz10_3
                                    try clear hfz10_4
                                    try clear hfz18_0
                                    try clear hfz18_1
                                    try clear hfz18_2
                                    try clear hfz18_3
                                    try clear hfz18_4
                                    try clear hfz37_0
                                    try clear hfz37_1
                                    try clear hfz37_2
                                    try clear hfz37_3
                                    try clear hfz37_4
                                    try clear hx181_0
                                    try clear hx181_1
                                    try clear hx181_2
                                    try clear hx181_3
                                    try clear hx182_0
                                    try clear hx183_0
                                    try clear hx183_1
                                    try clear hx183_2
                                    try clear hx183_3
                                    try clear hx186_0
                                    try clear p1
                                    try clear p12
                                    try clear p18
                                    try clear p181
                                    try clear p182
                                    try clear p183
                                    try clear p186
                                    try clear p2
                                    try clear p4
                                    try clear p44
                                    try clear p5
                                    try clear p6
                                    try clear q1
                                    try clear q12
                                    try clear q18
                                    try clear q181
                                    try clear q182
                                    try clear q183
                                    try clear q186
                                    try clear q4
                                    try clear q44
                                    try clear q5
                                    obtain ⟨kq, x11_44, rfl, HA, HJ44, HO_4, HO_7, BK168, BK184, HB⟩ := hcut
                                    cases kq with
                                    | zero => exact absurd HA.out (by simp [kindlingref03_Parse.j5])
                                    | succ kj44 =>
                                      have H := HA.out
                                      clear HA
                                      simp only [kindlingref03_Parse.j5] at H
                                      replace H := Option.bind_eq_some_iff.mp H
                                      obtain ⟨⟨t187, t188⟩, A480, H⟩ := H
                                      replace H : (if 0 ≤ x8_2 then (if x8_2 < (t178.length : Int) then (if 0 ≤ (wrap64 (x10_4 - 1)) then (if (wrap64 (x10_4 - 1)) < (((rd_T23 t178 x8_2).f1).size : Int) then (if (bt ((rd_T23 t178 x8_2).f1) (wrap64 (x10_4 - 1))) = 97 then (kindlingref03_Parse.l2 kj44 a0 y175 t178 x8_2 (wrap64 (x10_4 + 1)) x8_2 t187 x185002_4 x185003_4 x185004_4) else (if (bt ((rd_T23 t178 x8_2).f1) (wrap64 (x10_4 - 1))) = 98 then (kindlingref03_Parse.l2 kj44 a0 y175 t178 x8_2 (wrap64 (x10_4 + 1)) x8_2 x185001_4 t187 x185003_4 x185004_4) else (if (bt ((rd_T23 t178 x8_2).f1) (wrap64 (x10_4 - 1))) = 99 then (kindlingref03_Parse.l2 kj44 a0 y175 t178 x8_2 (wrap64 (x10_4 + 1)) x8_2 x185001_4 x185002_4 t187 x185004_4) else (kindlingref03_Parse.l2 kj44 a0 y175 t178 x8_2 (wrap64 (x10_4 + 1)) x8_2 x185001_4 x185002_4 x185003_4 t187)))) else (none)) else (none)) else (none)) else (none)) = some (r1, r2, r3, r4, r5, r6) := H
                                      have A48 := Aside0.mk A480
                                      clear A480
                                      by_cases c49 : 0 ≤ x8_2
                                      · rw [if_pos c49] at H
                                        have c49b0 : decide (0 ≤ x8_2) = true := decide_eq_true c49
                                        clear c49
                                        by_cases c50 : x8_2 < (t178.length : Int)
                                        · rw [if_pos c50] at H
                                          have c50b0 : decide (x8_2 < (t178.length : Int)) = true := decide_eq_true c50
                                          clear c50
                                          obtain ⟨ji51, hji51⟩ : ∃ j_ : Int, (wrap64 (x10_4 - 1)) = j_ := ⟨_, rfl⟩
                                          replace H : (if 0 ≤ (ji51) then (if (ji51) < (((rd_T23 t178 x8_2).f1).size : Int) then (if (bt ((rd_T23 t178 x8_2).f1) (ji51)) = 97 then (kindlingref03_Parse.l2 kj44 a0 y175 t178 x8_2 (wrap64 (x10_4 + 1)) x8_2 t187 x185002_4 x185003_4 x185004_4) else (if (bt ((rd_T23 t178 x8_2).f1) (ji51)) = 98 then (kindlingref03_Parse.l2 kj44 a0 y175 t178 x8_2 (wrap64 (x10_4 + 1)) x8_2 x185001_4 t187 x185003_4 x185004_4) else (if (bt ((rd_T23 t178 x8_2).f1) (ji51)) = 99 then (kindlingref03_Parse.l2 kj44 a0 y175 t178 x8_2 (wrap64 (x10_4 + 1)) x8_2 x185001_4 x185002_4 t187 x185004_4) else (kindlingref03_Parse.l2 kj44 a0 y175 t178 x8_2 (wrap64 (x10_4 + 1)) x8_2 x185001_4 x185002_4 x185003_4 t187)))) else (none)) else (none)) = some (r1, r2, r3, r4, r5, r6) := by first | (rw [hji51] at H; exact H) | (simp only [hji51] at H ⊢; exact H)
                                          (try rw [hji51] at A48)
                                          have hji51w : (IntKind.i64.wrap (x10_4 - 1)) = ji51 := (i64_w _).trans hji51
                                          by_cases c52 : 0 ≤ (ji51)
                                          · rw [if_pos c52] at H
                                            have c52b0 : decide (0 ≤ (ji51)) = true := decide_eq_true c52
                                            clear c52
                                            by_cases c53 : (ji51) < (((rd_T23 t178 x8_2).f1).size : Int)
                                            · rw [if_pos c53] at H
                                              have c53b0 : decide ((ji51) < (((rd_T23 t178 x8_2).f1).size : Int)) = true := decide_eq_true c53
                                              clear c53
                                              by_cases c55 : (bt ((rd_T23 t178 x8_2).f1) (ji51)) = 97
                                              · rw [if_pos c55] at H
                                                have c55b0 : ((bt ((rd_T23 t178 x8_2).f1) (ji51)) == 97) = true := beq_iff_eq.mpr c55
                                                have c55b1 : ((bt ((rd_T23 t178 x8_2).f1) (ji51)) != 97) = false := bne_eq_false_iff_eq.mpr c55
                                                clear c55
                                                have H' := Aside0.mk H
                                                clear H
                                                go_wp2_with (first | (go_at_call 48; (with_reducible refine (kindlingref01_Parse.calls kj44 x11_44 t187 t188 _ A48.out).mono ?_); rintro e w56 ⟨rfl, hb⟩; have n0_ := Aside0.mk (Kd.R_below (by (with_reducible repeat (first | apply Kd.R_alloc | apply Kd.R_drewN | apply Kd.R_drew)); exact HO_4.out) hb); have n1_ := Aside0.mk (Kd.R_below (by (with_reducible repeat (first | apply Kd.R_alloc | apply Kd.R_drewN | apply Kd.R_drew)); exact HO_7.out) hb); have n2_ := Aside0.mk (blk_below (g := gb168) (o := .cells #[.int .i64 x169000_2, .int .i64 x169001_2, .int .i64 x169002_2, .int .i64 x169003_2, .int .i64 x169004_2] 30 (0, 0)) (by (with_reducible repeat (first | refine blk_drewN ?_ _ | refine blk_drew ?_ | refine blk_alloc ?_ _)); exact BK168.out) hb); have n3_ := Aside0.mk (blk_below (g := gb184) (o := .cells #[.int .i64 x8_2, .int .i64 x185001_4, .int .i64 x185002_4, .int .i64 x185003_4, .int .i64 x185004_4] 30 (0, 0)) (by (with_reducible repeat (first | refine blk_drewN ?_ _ | refine blk_drew ?_ | refine blk_alloc ?_ _)); exact BK184.out) hb); have n4_ := Aside0.mk (below_step (by repeat (first | (with_reducible first | exact HB.out | apply below_alloc | apply pw_below_drewN | apply below_drew1 | refine below_set ?_ GE168.out | refine below_set ?_ GE184.out) | exact HB.out)) hb); clear HO_4; clear HO_7; clear BK168; clear BK184; clear HB; have HO_4 := n0_; have HO_7 := n1_; have BK168 := n2_; have BK184 := n3_; have HB := n4_; clear n0_ n1_ n2_ n3_ n4_; (try clear hb); (try clear hb2); (try clear hk); (try clear hi); have p189 : 0 ≤ (x8_2 : Int) := of_decide_eq_true (by first | (with_reducible assumption) | assumption); have q189 : x8_2 < (t178.length : Int) := of_decide_eq_true (by first | (with_reducible assumption) | assumption); obtain ⟨ad189, e189, hx189_0, hx189_1, hx189_2, hx189_3⟩ := at_T23 (Kd.R_reads' HO_7.out).2.2 x8_2 p189 q189; cases e189; replace p189 := eq_true p189; replace q189 := eq_true q189; have p54 : 0 ≤ ((ji51) : Int) := of_decide_eq_true (by first | (with_reducible assumption) | assumption); have q54 : (ji51) < (((rd_T23 t178 x8_2).f1).size : Int) := of_decide_eq_true (by first | (with_reducible assumption) | assumption); have hx54 := bt_at ((rd_T23 t178 x8_2).f1) (ji51); replace p54 := eq_true p54; replace q54 := eq_true q54; have hnb57 := NB184_168.out; have hnc57 := NB168_184.out; have hcz58_0 : w56.cell? ⟨gb184, 0, none⟩ = some (.int .i64 x8_2) := (blk_cell BK184.out 0).trans rfl; have hcz58_1 : w56.cell? ⟨gb184, 1, none⟩ = some (.int .i64 x185001_4) := (blk_cell BK184.out 1).trans rfl; have hcz58_2 : w56.cell? ⟨gb184, 2, none⟩ = some (.int .i64 x185002_4) := (blk_cell BK184.out 2).trans rfl; have hcz58_3 : w56.cell? ⟨gb184, 3, none⟩ = some (.int .i64 x185003_4) := (blk_cell BK184.out 3).trans rfl; have hcz58_4 : w56.cell? ⟨gb184, 4, none⟩ = some (.int .i64 x185004_4) := (blk_cell BK184.out 4).trans rfl; have hfz58_0 := blk_frozen BK184.out 0; have hfz58_1 := blk_frozen BK184.out 1; have hfz58_2 := blk_frozen BK184.out 2; have hfz58_3 := blk_frozen BK184.out 3; have hfz58_4 := blk_frozen BK184.out 4))
                                                repeat (go_quiet (first | (go_at_call 48; (with_reducible refine (kindlingref01_Parse.calls kj44 x11_44 t187 t188 _ A48.out).mono ?_); rintro e w56 ⟨rfl, hb⟩; have n0_ := Aside0.mk (Kd.R_below (by (with_reducible repeat (first | apply Kd.R_alloc | apply Kd.R_drewN | apply Kd.R_drew)); exact HO_4.out) hb); have n1_ := Aside0.mk (Kd.R_below (by (with_reducible repeat (first | apply Kd.R_alloc | apply Kd.R_drewN | apply Kd.R_drew)); exact HO_7.out) hb); have n2_ := Aside0.mk (blk_below (g := gb168) (o := .cells #[.int .i64 x169000_2, .int .i64 x169001_2, .int .i64 x169002_2, .int .i64 x169003_2, .int .i64 x169004_2] 30 (0, 0)) (by (with_reducible repeat (first | refine blk_drewN ?_ _ | refine blk_drew ?_ | refine blk_alloc ?_ _)); exact BK168.out) hb); have n3_ := Aside0.mk (blk_below (g := gb184) (o := .cells #[.int .i64 x8_2, .int .i64 x185001_4, .int .i64 x185002_4, .int .i64 x185003_4, .int .i64 x185004_4] 30 (0, 0)) (by (with_reducible repeat (first | refine blk_drewN ?_ _ | refine blk_drew ?_ | refine blk_alloc ?_ _)); exact BK184.out) hb); have n4_ := Aside0.mk (below_step (by repeat (first | (with_reducible first | exact HB.out | apply below_alloc | apply pw_below_drewN | apply below_drew1 | refine below_set ?_ GE168.out | refine below_set ?_ GE184.out) | exact HB.out)) hb); clear HO_4; clear HO_7; clear BK168; clear BK184; clear HB; have HO_4 := n0_; have HO_7 := n1_; have BK168 := n2_; have BK184 := n3_; have HB := n4_; clear n0_ n1_ n2_ n3_ n4_; (try clear hb); (try clear hb2); (try clear hk); (try clear hi); have p189 : 0 ≤ (x8_2 : Int) := of_decide_eq_true (by first | (with_reducible assumption) | assumption); have q189 : x8_2 < (t178.length : Int) := of_decide_eq_true (by first | (with_reducible assumption) | assumption); obtain ⟨ad189, e189, hx189_0, hx189_1, hx189_2, hx189_3⟩ := at_T23 (Kd.R_reads' HO_7.out).2.2 x8_2 p189 q189; cases e189; replace p189 := eq_true p189; replace q189 := eq_true q189; have p54 : 0 ≤ ((ji51) : Int) := of_decide_eq_true (by first | (with_reducible assumption) | assumption); have q54 : (ji51) < (((rd_T23 t178 x8_2).f1).size : Int) := of_decide_eq_true (by first | (with_reducible assumption) | assumption); have hx54 := bt_at ((rd_T23 t178 x8_2).f1) (ji51); replace p54 := eq_true p54; replace q54 := eq_true q54; have hnb57 := NB184_168.out; have hnc57 := NB168_184.out; have hcz58_0 : w56.cell? ⟨gb184, 0, none⟩ = some (.int .i64 x8_2) := (blk_cell BK184.out 0).trans rfl; have hcz58_1 : w56.cell? ⟨gb184, 1, none⟩ = some (.int .i64 x185001_4) := (blk_cell BK184.out 1).trans rfl; have hcz58_2 : w56.cell? ⟨gb184, 2, none⟩ = some (.int .i64 x185002_4) := (blk_cell BK184.out 2).trans rfl; have hcz58_3 : w56.cell? ⟨gb184, 3, none⟩ = some (.int .i64 x185003_4) := (blk_cell BK184.out 3).trans rfl; have hcz58_4 : w56.cell? ⟨gb184, 4, none⟩ = some (.int .i64 x185004_4) := (blk_cell BK184.out 4).trans rfl; have hfz58_0 := blk_frozen BK184.out 0; have hfz58_1 := blk_frozen BK184.out 1; have hfz58_2 := blk_frozen BK184.out 2; have hfz58_3 := blk_frozen BK184.out 3; have hfz58_4 := blk_frozen BK184.out 4)); try go_wp2_with (first | (go_at_call 48; (with_reducible refine (kindlingref01_Parse.calls kj44 x11_44 t187 t188 _ A48.out).mono ?_); rintro e w56 ⟨rfl, hb⟩; have n0_ := Aside0.mk (Kd.R_below (by (with_reducible repeat (first | apply Kd.R_alloc | apply Kd.R_drewN | apply Kd.R_drew)); exact HO_4.out) hb); have n1_ := Aside0.mk (Kd.R_below (by (with_reducible repeat (first | apply Kd.R_alloc | apply Kd.R_drewN | apply Kd.R_drew)); exact HO_7.out) hb); have n2_ := Aside0.mk (blk_below (g := gb168) (o := .cells #[.int .i64 x169000_2, .int .i64 x169001_2, .int .i64 x169002_2, .int .i64 x169003_2, .int .i64 x169004_2] 30 (0, 0)) (by (with_reducible repeat (first | refine blk_drewN ?_ _ | refine blk_drew ?_ | refine blk_alloc ?_ _)); exact BK168.out) hb); have n3_ := Aside0.mk (blk_below (g := gb184) (o := .cells #[.int .i64 x8_2, .int .i64 x185001_4, .int .i64 x185002_4, .int .i64 x185003_4, .int .i64 x185004_4] 30 (0, 0)) (by (with_reducible repeat (first | refine blk_drewN ?_ _ | refine blk_drew ?_ | refine blk_alloc ?_ _)); exact BK184.out) hb); have n4_ := Aside0.mk (below_step (by repeat (first | (with_reducible first | exact HB.out | apply below_alloc | apply pw_below_drewN | apply below_drew1 | refine below_set ?_ GE168.out | refine below_set ?_ GE184.out) | exact HB.out)) hb); clear HO_4; clear HO_7; clear BK168; clear BK184; clear HB; have HO_4 := n0_; have HO_7 := n1_; have BK168 := n2_; have BK184 := n3_; have HB := n4_; clear n0_ n1_ n2_ n3_ n4_; (try clear hb); (try clear hb2); (try clear hk); (try clear hi); have p189 : 0 ≤ (x8_2 : Int) := of_decide_eq_true (by first | (with_reducible assumption) | assumption); have q189 : x8_2 < (t178.length : Int) := of_decide_eq_true (by first | (with_reducible assumption) | assumption); obtain ⟨ad189, e189, hx189_0, hx189_1, hx189_2, hx189_3⟩ := at_T23 (Kd.R_reads' HO_7.out).2.2 x8_2 p189 q189; cases e189; replace p189 := eq_true p189; replace q189 := eq_true q189; have p54 : 0 ≤ ((ji51) : Int) := of_decide_eq_true (by first | (with_reducible assumption) | assumption); have q54 : (ji51) < (((rd_T23 t178 x8_2).f1).size : Int) := of_decide_eq_true (by first | (with_reducible assumption) | assumption); have hx54 := bt_at ((rd_T23 t178 x8_2).f1) (ji51); replace p54 := eq_true p54; replace q54 := eq_true q54; have hnb57 := NB184_168.out; have hnc57 := NB168_184.out; have hcz58_0 : w56.cell? ⟨gb184, 0, none⟩ = some (.int .i64 x8_2) := (blk_cell BK184.out 0).trans rfl; have hcz58_1 : w56.cell? ⟨gb184, 1, none⟩ = some (.int .i64 x185001_4) := (blk_cell BK184.out 1).trans rfl; have hcz58_2 : w56.cell? ⟨gb184, 2, none⟩ = some (.int .i64 x185002_4) := (blk_cell BK184.out 2).trans rfl; have hcz58_3 : w56.cell? ⟨gb184, 3, none⟩ = some (.int .i64 x185003_4) := (blk_cell BK184.out 3).trans rfl; have hcz58_4 : w56.cell? ⟨gb184, 4, none⟩ = some (.int .i64 x185004_4) := (blk_cell BK184.out 4).trans rfl; have hfz58_0 := blk_frozen BK184.out 0; have hfz58_1 := blk_frozen BK184.out 1; have hfz58_2 := blk_frozen BK184.out 2; have hfz58_3 := blk_frozen BK184.out 3; have hfz58_4 := blk_frozen BK184.out 4)))
                                                go_roundg kj44
                                                case measure => have := HK1.out; have := HK2.out; have := HJ26.out; have := HK4.out; have := HJ39.out; have := HJ44.out; omega
                                                case rel => exact ⟨(wrap64 (x10_4 + 1)), (t187), (x185002_4), (x185003_4), (x185004_4), (by first | rfl | (simp; done) | (simp [*]; done)), H', ⟨by have := HK1.out; have := HK2.out; have := HJ26.out; have := HK4.out; have := HJ39.out; have := HJ44.out; omega⟩, ⟨by (with_reducible repeat (first | apply Kd.R_alloc | apply Kd.R_drewN | apply Kd.R_drew)); exact Kd.R_mono (Kd.R_far (p := ⟨gb184, 1, none⟩) (Kd.R_types HO_4.out BK184.out (by decide)) (fun _ hk => hk.2) (.int .i64 t187)) (fun _ hk => trivial)⟩, ⟨by (with_reducible repeat (first | apply Kd.R_alloc | apply Kd.R_drewN | apply Kd.R_drew)); exact Kd.R_mono (Kd.R_far (p := ⟨gb184, 1, none⟩) (Kd.R_types HO_7.out BK184.out (by decide)) (fun _ hk => hk.2) (.int .i64 t187)) (fun _ hk => trivial)⟩, ⟨by (with_reducible repeat (first | refine blk_drewN ?_ _ | refine blk_drew ?_ | refine blk_alloc ?_ _)); refine blk_far ?_ NB168_184.out _; (with_reducible repeat (first | refine blk_drewN ?_ _ | refine blk_drew ?_ | refine blk_alloc ?_ _)); exact BK168.out⟩, ⟨by (with_reducible repeat (first | refine blk_drewN ?_ _ | refine blk_drew ?_ | refine blk_alloc ?_ _)); refine blk_put (cs := #[.int .i64 x8_2, .int .i64 x185001_4, .int .i64 x185002_4, .int .i64 x185003_4, .int .i64 x185004_4]) ?_ 1 _ rfl; (with_reducible repeat (first | refine blk_drewN ?_ _ | refine blk_drew ?_ | refine blk_alloc ?_ _)); exact BK184.out⟩, ⟨by repeat (first | (with_reducible first | exact HB.out | apply below_alloc | apply pw_below_drewN | apply below_drew1 | refine below_set ?_ GE168.out | refine below_set ?_ GE184.out) | exact HB.out)⟩⟩
                                              · rw [if_neg c55] at H
                                                have c55b0 : ((bt ((rd_T23 t178 x8_2).f1) (ji51)) == 97) = false := beq_eq_false_iff_ne.mpr c55
                                                have c55b1 : ((bt ((rd_T23 t178 x8_2).f1) (ji51)) != 97) = true := bne_iff_ne.mpr c55
                                                by_cases c59 : (bt ((rd_T23 t178 x8_2).f1) (ji51)) = 98
                                                · rw [if_pos c59] at H
                                                  have c59b0 : ((bt ((rd_T23 t178 x8_2).f1) (ji51)) == 98) = true := beq_iff_eq.mpr c59
                                                  have c59b1 : ((bt ((rd_T23 t178 x8_2).f1) (ji51)) != 98) = false := bne_eq_false_iff_eq.mpr c59
                                                  clear c59
                                                  have H' := Aside0.mk H
                                                  clear H
                                                  go_wp2_with (first | (go_at_call 48; (with_reducible refine (kindlingref01_Parse.calls kj44 x11_44 t187 t188 _ A48.out).mono ?_); rintro e w60 ⟨rfl, hb⟩; have n0_ := Aside0.mk (Kd.R_below (by (with_reducible repeat (first | apply Kd.R_alloc | apply Kd.R_drewN | apply Kd.R_drew)); exact HO_4.out) hb); have n1_ := Aside0.mk (Kd.R_below (by (with_reducible repeat (first | apply Kd.R_alloc | apply Kd.R_drewN | apply Kd.R_drew)); exact HO_7.out) hb); have n2_ := Aside0.mk (blk_below (g := gb168) (o := .cells #[.int .i64 x169000_2, .int .i64 x169001_2, .int .i64 x169002_2, .int .i64 x169003_2, .int .i64 x169004_2] 30 (0, 0)) (by (with_reducible repeat (first | refine blk_drewN ?_ _ | refine blk_drew ?_ | refine blk_alloc ?_ _)); exact BK168.out) hb); have n3_ := Aside0.mk (blk_below (g := gb184) (o := .cells #[.int .i64 x8_2, .int .i64 x185001_4, .int .i64 x185002_4, .int .i64 x185003_4, .int .i64 x185004_4] 30 (0, 0)) (by (with_reducible repeat (first | refine blk_drewN ?_ _ | refine blk_drew ?_ | refine blk_alloc ?_ _)); exact BK184.out) hb); have n4_ := Aside0.mk (below_step (by repeat (first | (with_reducible first | exact HB.out | apply below_alloc | apply pw_below_drewN | apply below_drew1 | refine below_set ?_ GE168.out | refine below_set ?_ GE184.out) | exact HB.out)) hb); clear HO_4; clear HO_7; clear BK168; clear BK184; clear HB; have HO_4 := n0_; have HO_7 := n1_; have BK168 := n2_; have BK184 := n3_; have HB := n4_; clear n0_ n1_ n2_ n3_ n4_; (try clear hb); (try clear hb2); (try clear hk); (try clear hi); have p189 : 0 ≤ (x8_2 : Int) := of_decide_eq_true (by first | (with_reducible assumption) | assumption); have q189 : x8_2 < (t178.length : Int) := of_decide_eq_true (by first | (with_reducible assumption) | assumption); obtain ⟨ad189, e189, hx189_0, hx189_1, hx189_2, hx189_3⟩ := at_T23 (Kd.R_reads' HO_7.out).2.2 x8_2 p189 q189; cases e189; replace p189 := eq_true p189; replace q189 := eq_true q189; have p54 : 0 ≤ ((ji51) : Int) := of_decide_eq_true (by first | (with_reducible assumption) | assumption); have q54 : (ji51) < (((rd_T23 t178 x8_2).f1).size : Int) := of_decide_eq_true (by first | (with_reducible assumption) | assumption); have hx54 := bt_at ((rd_T23 t178 x8_2).f1) (ji51); replace p54 := eq_true p54; replace q54 := eq_true q54; have hnb61 := NB184_168.out; have hnc61 := NB168_184.out; have hcz62_0 : w60.cell? ⟨gb184, 0, none⟩ = some (.int .i64 x8_2) := (blk_cell BK184.out 0).trans rfl; have hcz62_1 : w60.cell? ⟨gb184, 1, none⟩ = some (.int .i64 x185001_4) := (blk_cell BK184.out 1).trans rfl; have hcz62_2 : w60.cell? ⟨gb184, 2, none⟩ = some (.int .i64 x185002_4) := (blk_cell BK184.out 2).trans rfl; have hcz62_3 : w60.cell? ⟨gb184, 3, none⟩ = some (.int .i64 x185003_4) := (blk_cell BK184.out 3).trans rfl; have hcz62_4 : w60.cell? ⟨gb184, 4, none⟩ = some (.int .i64 x185004_4) := (blk_cell BK184.out 4).trans rfl; have hfz62_0 := blk_frozen BK184.out 0; have hfz62_1 := blk_frozen BK184.out 1; have hfz62_2 := blk_frozen BK184.out 2; have hfz62_3 := blk_frozen BK184.out 3; have hfz62_4 := blk_frozen BK184.out 4))
                                                  repeat (go_quiet (first | (go_at_call 48; (with_reducible refine (kindlingref01_Parse.calls kj44 x11_44 t187 t188 _ A48.out).mono ?_); rintro e w60 ⟨rfl, hb⟩; have n0_ := Aside0.mk (Kd.R_below (by (with_reducible repeat (first | apply Kd.R_alloc | apply Kd.R_drewN | apply Kd.R_drew)); exact HO_4.out) hb); have n1_ := Aside0.mk (Kd.R_below (by (with_reducible repeat (first | apply Kd.R_alloc | apply Kd.R_drewN | apply Kd.R_drew)); exact HO_7.out) hb); have n2_ := Aside0.mk (blk_below (g := gb168) (o := .cells #[.int .i64 x169000_2, .int .i64 x169001_2, .int .i64 x169002_2, .int .i64 x169003_2, .int .i64 x169004_2] 30 (0, 0)) (by (with_reducible repeat (first | refine blk_drewN ?_ _ | refine blk_drew ?_ | refine blk_alloc ?_ _)); exact BK168.out) hb); have n3_ := Aside0.mk (blk_below (g := gb184) (o := .cells #[.int .i64 x8_2, .int .i64 x185001_4, .int .i64 x185002_4, .int .i64 x185003_4, .int .i64 x185004_4] 30 (0, 0)) (by (with_reducible repeat (first | refine blk_drewN ?_ _ | refine blk_drew ?_ | refine blk_alloc ?_ _)); exact BK184.out) hb); have n4_ := Aside0.mk (below_step (by repeat (first | (with_reducible first | exact HB.out | apply below_alloc | apply pw_below_drewN | apply below_drew1 | refine below_set ?_ GE168.out | refine below_set ?_ GE184.out) | exact HB.out)) hb); clear HO_4; clear HO_7; clear BK168; clear BK184; clear HB; have HO_4 := n0_; have HO_7 := n1_; have BK168 := n2_; have BK184 := n3_; have HB := n4_; clear n0_ n1_ n2_ n3_ n4_; (try clear hb); (try clear hb2); (try clear hk); (try clear hi); have p189 : 0 ≤ (x8_2 : Int) := of_decide_eq_true (by first | (with_reducible assumption) | assumption); have q189 : x8_2 < (t178.length : Int) := of_decide_eq_true (by first | (with_reducible assumption) | assumption); obtain ⟨ad189, e189, hx189_0, hx189_1, hx189_2, hx189_3⟩ := at_T23 (Kd.R_reads' HO_7.out).2.2 x8_2 p189 q189; cases e189; replace p189 := eq_true p189; replace q189 := eq_true q189; have p54 : 0 ≤ ((ji51) : Int) := of_decide_eq_true (by first | (with_reducible assumption) | assumption); have q54 : (ji51) < (((rd_T23 t178 x8_2).f1).size : Int) := of_decide_eq_true (by first | (with_reducible assumption) | assumption); have hx54 := bt_at ((rd_T23 t178 x8_2).f1) (ji51); replace p54 := eq_true p54; replace q54 := eq_true q54; have hnb61 := NB184_168.out; have hnc61 := NB168_184.out; have hcz62_0 : w60.cell? ⟨gb184, 0, none⟩ = some (.int .i64 x8_2) := (blk_cell BK184.out 0).trans rfl; have hcz62_1 : w60.cell? ⟨gb184, 1, none⟩ = some (.int .i64 x185001_4) := (blk_cell BK184.out 1).trans rfl; have hcz62_2 : w60.cell? ⟨gb184, 2, none⟩ = some (.int .i64 x185002_4) := (blk_cell BK184.out 2).trans rfl; have hcz62_3 : w60.cell? ⟨gb184, 3, none⟩ = some (.int .i64 x185003_4) := (blk_cell BK184.out 3).trans rfl; have hcz62_4 : w60.cell? ⟨gb184, 4, none⟩ = some (.int .i64 x185004_4) := (blk_cell BK184.out 4).trans rfl; have hfz62_0 := blk_frozen BK184.out 0; have hfz62_1 := blk_frozen BK184.out 1; have hfz62_2 := blk_frozen BK184.out 2; have hfz62_3 := blk_frozen BK184.out 3; have hfz62_4 := blk_frozen BK184.out 4)); try go_wp2_with (first | (go_at_call 48; (with_reducible refine (kindlingref01_Parse.calls kj44 x11_44 t187 t188 _ A48.out).mono ?_); rintro e w60 ⟨rfl, hb⟩; have n0_ := Aside0.mk (Kd.R_below (by (with_reducible repeat (first | apply Kd.R_alloc | apply Kd.R_drewN | apply Kd.R_drew)); exact HO_4.out) hb); have n1_ := Aside0.mk (Kd.R_below (by (with_reducible repeat (first | apply Kd.R_alloc | apply Kd.R_drewN | apply Kd.R_drew)); exact HO_7.out) hb); have n2_ := Aside0.mk (blk_below (g := gb168) (o := .cells #[.int .i64 x169000_2, .int .i64 x169001_2, .int .i64 x169002_2, .int .i64 x169003_2, .int .i64 x169004_2] 30 (0, 0)) (by (with_reducible repeat (first | refine blk_drewN ?_ _ | refine blk_drew ?_ | refine blk_alloc ?_ _)); exact BK168.out) hb); have n3_ := Aside0.mk (blk_below (g := gb184) (o := .cells #[.int .i64 x8_2, .int .i64 x185001_4, .int .i64 x185002_4, .int .i64 x185003_4, .int .i64 x185004_4] 30 (0, 0)) (by (with_reducible repeat (first | refine blk_drewN ?_ _ | refine blk_drew ?_ | refine blk_alloc ?_ _)); exact BK184.out) hb); have n4_ := Aside0.mk (below_step (by repeat (first | (with_reducible first | exact HB.out | apply below_alloc | apply pw_below_drewN | apply below_drew1 | refine below_set ?_ GE168.out | refine below_set ?_ GE184.out) | exact HB.out)) hb); clear HO_4; clear HO_7; clear BK168; clear BK184; clear HB; have HO_4 := n0_; have HO_7 := n1_; have BK168 := n2_; have BK184 := n3_; have HB := n4_; clear n0_ n1_ n2_ n3_ n4_; (try clear hb); (try clear hb2); (try clear hk); (try clear hi); have p189 : 0 ≤ (x8_2 : Int) := of_decide_eq_true (by first | (with_reducible assumption) | assumption); have q189 : x8_2 < (t178.length : Int) := of_decide_eq_true (by first | (with_reducible assumption) | assumption); obtain ⟨ad189, e189, hx189_0, hx189_1, hx189_2, hx189_3⟩ := at_T23 (Kd.R_reads' HO_7.out).2.2 x8_2 p189 q189; cases e189; replace p189 := eq_true p189; replace q189 := eq_true q189; have p54 : 0 ≤ ((ji51) : Int) := of_decide_eq_true (by first | (with_reducible assumption) | assumption); have q54 : (ji51) < (((rd_T23 t178 x8_2).f1).size : Int) := of_decide_eq_true (by first | (with_reducible assumption) | assumption); have hx54 := bt_at ((rd_T23 t178 x8_2).f1) (ji51); replace p54 := eq_true p54; replace q54 := eq_true q54; have hnb61 := NB184_168.out; have hnc61 := NB168_184.out; have hcz62_0 : w60.cell? ⟨gb184, 0, none⟩ = some (.int .i64 x8_2) := (blk_cell BK184.out 0).trans rfl; have hcz62_1 : w60.cell? ⟨gb184, 1, none⟩ = some (.int .i64 x185001_4) := (blk_cell BK184.out 1).trans rfl; have hcz62_2 : w60.cell? ⟨gb184, 2, none⟩ = some (.int .i64 x185002_4) := (blk_cell BK184.out 2).trans rfl; have hcz62_3 : w60.cell? ⟨gb184, 3, none⟩ = some (.int .i64 x185003_4) := (blk_cell BK184.out 3).trans rfl; have hcz62_4 : w60.cell? ⟨gb184, 4, none⟩ = some (.int .i64 x185004_4) := (blk_cell BK184.out 4).trans rfl; have hfz62_0 := blk_frozen BK184.out 0; have hfz62_1 := blk_frozen BK184.out 1; have hfz62_2 := blk_frozen BK184.out 2; have hfz62_3 := blk_frozen BK184.out 3; have hfz62_4 := blk_frozen BK184.out 4)))
                                                  go_roundg kj44
                                                  case measure => have := HK1.out; have := HK2.out; have := HJ26.out; have := HK4.out; have := HJ39.out; have := HJ44.out; omega
                                                  case rel => exact ⟨(wrap64 (x10_4 + 1)), (x185001_4), (t187), (x185003_4), (x185004_4), (by first | rfl | (simp; done) | (simp [*]; done)), H', ⟨by have := HK1.out; have := HK2.out; have := HJ26.out; have := HK4.out; have := HJ39.out; have := HJ44.out; omega⟩, ⟨by (with_reducible repeat (first | apply Kd.R_alloc | apply Kd.R_drewN | apply Kd.R_drew)); exact Kd.R_mono (Kd.R_far (p := ⟨gb184, 2, none⟩) (Kd.R_types HO_4.out BK184.out (by decide)) (fun _ hk => hk.2) (.int .i64 t187)) (fun _ hk => trivial)⟩, ⟨by (with_reducible repeat (first | apply Kd.R_alloc | apply Kd.R_drewN | apply Kd.R_drew)); exact Kd.R_mono (Kd.R_far (p := ⟨gb184, 2, none⟩) (Kd.R_types HO_7.out BK184.out (by decide)) (fun _ hk => hk.2) (.int .i64 t187)) (fun _ hk => trivial)⟩, ⟨by (with_reducible repeat (first | refine blk_drewN ?_ _ | refine blk_drew ?_ | refine blk_alloc ?_ _)); refine blk_far ?_ NB168_184.out _; (with_reducible repeat (first | refine blk_drewN ?_ _ | refine blk_drew ?_ | refine blk_alloc ?_ _)); exact BK168.out⟩, ⟨by (with_reducible repeat (first | refine blk_drewN ?_ _ | refine blk_drew ?_ | refine blk_alloc ?_ _)); refine blk_put (cs := #[.int .i64 x8_2, .int .i64 x185001_4, .int .i64 x185002_4, .int .i64 x185003_4, .int .i64 x185004_4]) ?_ 2 _ rfl; (with_reducible repeat (first | refine blk_drewN ?_ _ | refine blk_drew ?_ | refine blk_alloc ?_ _)); exact BK184.out⟩, ⟨by repeat (first | (with_reducible first | exact HB.out | apply below_alloc | apply pw_below_drewN | apply below_drew1 | refine below_set ?_ GE168.out | refine below_set ?_ GE184.out) | exact HB.out)⟩⟩
                                                · rw [if_neg c59] at H
                                                  have c59b0 : ((bt ((rd_T23 t178 x8_2).f1) (ji51)) == 98) = false := beq_eq_false_iff_ne.mpr c59
                                                  have c59b1 : ((bt ((rd_T23 t178 x8_2).f1) (ji51)) != 98) = true := bne_iff_ne.mpr c59
                                                  by_cases c63 : (bt ((rd_T23 t178 x8_2).f1) (ji51)) = 99
                                                  · rw [if_pos c63] at H
                                                    have c63b0 : ((bt ((rd_T23 t178 x8_2).f1) (ji51)) == 99) = true := beq_iff_eq.mpr c63
                                                    have c63b1 : ((bt ((rd_T23 t178 x8_2).f1) (ji51)) != 99) = false := bne_eq_false_iff_eq.mpr c63
                                                    clear c63
                                                    have H' := Aside0.mk H
                                                    clear H
                                                    go_wp2_with (first | (go_at_call 48; (with_reducible refine (kindlingref01_Parse.calls kj44 x11_44 t187 t188 _ A48.out).mono ?_); rintro e w64 ⟨rfl, hb⟩; have n0_ := Aside0.mk (Kd.R_below (by (with_reducible repeat (first | apply Kd.R_alloc | apply Kd.R_drewN | apply Kd.R_drew)); exact HO_4.out) hb); have n1_ := Aside0.mk (Kd.R_below (by (with_reducible repeat (first | apply Kd.R_alloc | apply Kd.R_drewN | apply Kd.R_drew)); exact HO_7.out) hb); have n2_ := Aside0.mk (blk_below (g := gb168) (o := .cells #[.int .i64 x169000_2, .int .i64 x169001_2, .int .i64 x169002_2, .int .i64 x169003_2, .int .i64 x169004_2] 30 (0, 0)) (by (with_reducible repeat (first | refine blk_drewN ?_ _ | refine blk_drew ?_ | refine blk_alloc ?_ _)); exact BK168.out) hb); have n3_ := Aside0.mk (blk_below (g := gb184) (o := .cells #[.int .i64 x8_2, .int .i64 x185001_4, .int .i64 x185002_4, .int .i64 x185003_4, .int .i64 x185004_4] 30 (0, 0)) (by (with_reducible repeat (first | refine blk_drewN ?_ _ | refine blk_drew ?_ | refine blk_alloc ?_ _)); exact BK184.out) hb); have n4_ := Aside0.mk (below_step (by repeat (first | (with_reducible first | exact HB.out | apply below_alloc | apply pw_below_drewN | apply below_drew1 | refine below_set ?_ GE168.out | refine below_set ?_ GE184.out) | exact HB.out)) hb); clear HO_4; clear HO_7; clear BK168; clear BK184; clear HB; have HO_4 := n0_; have HO_7 := n1_; have BK168 := n2_; have BK184 := n3_; have HB := n4_; clear n0_ n1_ n2_ n3_ n4_; (try clear hb); (try clear hb2); (try clear hk); (try clear hi); have p189 : 0 ≤ (x8_2 : Int) := of_decide_eq_true (by first | (with_reducible assumption) | assumption); have q189 : x8_2 < (t178.length : Int) := of_decide_eq_true (by first | (with_reducible assumption) | assumption); obtain ⟨ad189, e189, hx189_0, hx189_1, hx189_2, hx189_3⟩ := at_T23 (Kd.R_reads' HO_7.out).2.2 x8_2 p189 q189; cases e189; replace p189 := eq_true p189; replace q189 := eq_true q189; have p54 : 0 ≤ ((ji51) : Int) := of_decide_eq_true (by first | (with_reducible assumption) | assumption); have q54 : (ji51) < (((rd_T23 t178 x8_2).f1).size : Int) := of_decide_eq_true (by first | (with_reducible assumption) | assumption); have hx54 := bt_at ((rd_T23 t178 x8_2).f1) (ji51); replace p54 := eq_true p54; replace q54 := eq_true q54; have hnb65 := NB184_168.out; have hnc65 := NB168_184.out; have hcz66_0 : w64.cell? ⟨gb184, 0, none⟩ = some (.int .i64 x8_2) := (blk_cell BK184.out 0).trans rfl; have hcz66_1 : w64.cell? ⟨gb184, 1, none⟩ = some (.int .i64 x185001_4) := (blk_cell BK184.out 1).trans rfl; have hcz66_2 : w64.cell? ⟨gb184, 2, none⟩ = some (.int .i64 x185002_4) := (blk_cell BK184.out 2).trans rfl; have hcz66_3 : w64.cell? ⟨gb184, 3, none⟩ = some (.int .i64 x185003_4) := (blk_cell BK184.out 3).trans rfl; have hcz66_4 : w64.cell? ⟨gb184, 4, none⟩ = some (.int .i64 x185004_4) := (blk_cell BK184.out 4).trans rfl; have hfz66_0 := blk_frozen BK184.out 0; have hfz66_1 := blk_frozen BK184.out 1; have hfz66_2 := blk_frozen BK184.out 2; have hfz66_3 := blk_frozen BK184.out 3; have hfz66_4 := blk_frozen BK184.out 4))
                                                    repeat (go_quiet (first | (go_at_call 48; (with_reducible refine (kindlingref01_Parse.calls kj44 x11_44 t187 t188 _ A48.out).mono ?_); rintro e w64 ⟨rfl, hb⟩; have n0_ := Aside0.mk (Kd.R_below (by (with_reducible repeat (first | apply Kd.R_alloc | apply Kd.R_drewN | apply Kd.R_drew)); exact HO_4.out) hb); have n1_ := Aside0.mk (Kd.R_below (by (with_reducible repeat (first | apply Kd.R_alloc | apply Kd.R_drewN | apply Kd.R_drew)); exact HO_7.out) hb); have n2_ := Aside0.mk (blk_below (g := gb168) (o := .cells #[.int .i64 x169000_2, .int .i64 x169001_2, .int .i64 x169002_2, .int .i64 x169003_2, .int .i64 x169004_2] 30 (0, 0)) (by (with_reducible repeat (first | refine blk_drewN ?_ _ | refine blk_drew ?_ | refine blk_alloc ?_ _)); exact BK168.out) hb); have n3_ := Aside0.mk (blk_below (g := gb184) (o := .cells #[.int .i64 x8_2, .int .i64 x185001_4, .int .i64 x185002_4, .int .i64 x185003_4, .int .i64 x185004_4] 30 (0, 0)) (by (with_reducible repeat (first | refine blk_drewN ?_ _ | refine blk_drew ?_ | refine blk_alloc ?_ _)); exact BK184.out) hb); have n4_ := Aside0.mk (below_step (by repeat (first | (with_reducible first | exact HB.out | apply below_alloc | apply pw_below_drewN | apply below_drew1 | refine below_set ?_ GE168.out | refine below_set ?_ GE184.out) | exact HB.out)) hb); clear HO_4; clear HO_7; clear BK168; clear BK184; clear HB; have HO_4 := n0_; have HO_7 := n1_; have BK168 := n2_; have BK184 := n3_; have HB := n4_; clear n0_ n1_ n2_ n3_ n4_; (try clear hb); (try clear hb2); (try clear hk); (try clear hi); have p189 : 0 ≤ (x8_2 : Int) := of_decide_eq_true (by first | (with_reducible assumption) | assumption); have q189 : x8_2 < (t178.length : Int) := of_decide_eq_true (by first | (with_reducible assumption) | assumption); obtain ⟨ad189, e189, hx189_0, hx189_1, hx189_2, hx189_3⟩ := at_T23 (Kd.R_reads' HO_7.out).2.2 x8_2 p189 q189; cases e189; replace p189 := eq_true p189; replace q189 := eq_true q189; have p54 : 0 ≤ ((ji51) : Int) := of_decide_eq_true (by first | (with_reducible assumption) | assumption); have q54 : (ji51) < (((rd_T23 t178 x8_2).f1).size : Int) := of_decide_eq_true (by first | (with_reducible assumption) | assumption); have hx54 := bt_at ((rd_T23 t178 x8_2).f1) (ji51); replace p54 := eq_true p54; replace q54 := eq_true q54; have hnb65 := NB184_168.out; have hnc65 := NB168_184.out; have hcz66_0 : w64.cell? ⟨gb184, 0, none⟩ = some (.int .i64 x8_2) := (blk_cell BK184.out 0).trans rfl; have hcz66_1 : w64.cell? ⟨gb184, 1, none⟩ = some (.int .i64 x185001_4) := (blk_cell BK184.out 1).trans rfl; have hcz66_2 : w64.cell? ⟨gb184, 2, none⟩ = some (.int .i64 x185002_4) := (blk_cell BK184.out 2).trans rfl; have hcz66_3 : w64.cell? ⟨gb184, 3, none⟩ = some (.int .i64 x185003_4) := (blk_cell BK184.out 3).trans rfl; have hcz66_4 : w64.cell? ⟨gb184, 4, none⟩ = some (.int .i64 x185004_4) := (blk_cell BK184.out 4).trans rfl; have hfz66_0 := blk_frozen BK184.out 0; have hfz66_1 := blk_frozen BK184.out 1; have hfz66_2 := blk_frozen BK184.out 2; have hfz66_3 := blk_frozen BK184.out 3; have hfz66_4 := blk_frozen BK184.out 4)); try go_wp2_with (first | (go_at_call 48; (with_reducible refine (kindlingref01_Parse.calls kj44 x11_44 t187 t188 _ A48.out).mono ?_); rintro e w64 ⟨rfl, hb⟩; have n0_ := Aside0.mk (Kd.R_below (by (with_reducible repeat (first | apply Kd.R_alloc | apply Kd.R_drewN | apply Kd.R_drew)); exact HO_4.out) hb); have n1_ := Aside0.mk (Kd.R_below (by (with_reducible repeat (first | apply Kd.R_alloc | apply Kd.R_drewN | apply Kd.R_drew)); exact HO_7.out) hb); have n2_ := Aside0.mk (blk_below (g := gb168) (o := .cells #[.int .i64 x169000_2, .int .i64 x169001_2, .int .i64 x169002_2, .int .i64 x169003_2, .int .i64 x169004_2] 30 (0, 0)) (by (with_reducible repeat (first | refine blk_drewN ?_ _ | refine blk_drew ?_ | refine blk_alloc ?_ _)); exact BK168.out) hb); have n3_ := Aside0.mk (blk_below (g := gb184) (o := .cells #[.int .i64 x8_2, .int .i64 x185001_4, .int .i64 x185002_4, .int .i64 x185003_4, .int .i64 x185004_4] 30 (0, 0)) (by (with_reducible repeat (first | refine blk_drewN ?_ _ | refine blk_drew ?_ | refine blk_alloc ?_ _)); exact BK184.out) hb); have n4_ := Aside0.mk (below_step (by repeat (first | (with_reducible first | exact HB.out | apply below_alloc | apply pw_below_drewN | apply below_drew1 | refine below_set ?_ GE168.out | refine below_set ?_ GE184.out) | exact HB.out)) hb); clear HO_4; clear HO_7; clear BK168; clear BK184; clear HB; have HO_4 := n0_; have HO_7 := n1_; have BK168 := n2_; have BK184 := n3_; have HB := n4_; clear n0_ n1_ n2_ n3_ n4_; (try clear hb); (try clear hb2); (try clear hk); (try clear hi); have p189 : 0 ≤ (x8_2 : Int) := of_decide_eq_true (by first | (with_reducible assumption) | assumption); have q189 : x8_2 < (t178.length : Int) := of_decide_eq_true (by first | (with_reducible assumption) | assumption); obtain ⟨ad189, e189, hx189_0, hx189_1, hx189_2, hx189_3⟩ := at_T23 (Kd.R_reads' HO_7.out).2.2 x8_2 p189 q189; cases e189; replace p189 := eq_true p189; replace q189 := eq_true q189; have p54 : 0 ≤ ((ji51) : Int) := of_decide_eq_true (by first | (with_reducible assumption) | assumption); have q54 : (ji51) < (((rd_T23 t178 x8_2).f1).size : Int) := of_decide_eq_true (by first | (with_reducible assumption) | assumption); have hx54 := bt_at ((rd_T23 t178 x8_2).f1) (ji51); replace p54 := eq_true p54; replace q54 := eq_true q54; have hnb65 := NB184_168.out; have hnc65 := NB168_184.out; have hcz66_0 : w64.cell? ⟨gb184, 0, none⟩ = some (.int .i64 x8_2) := (blk_cell BK184.out 0).trans rfl; have hcz66_1 : w64.cell? ⟨gb184, 1, none⟩ = some (.int .i64 x185001_4) := (blk_cell BK184.out 1).trans rfl; have hcz66_2 : w64.cell? ⟨gb184, 2, none⟩ = some (.int .i64 x185002_4) := (blk_cell BK184.out 2).trans rfl; have hcz66_3 : w64.cell? ⟨gb184, 3, none⟩ = some (.int .i64 x185003_4) := (blk_cell BK184.out 3).trans rfl; have hcz66_4 : w64.cell? ⟨gb184, 4, none⟩ = some (.int .i64 x185004_4) := (blk_cell BK184.out 4).trans rfl; have hfz66_0 := blk_frozen BK184.out 0; have hfz66_1 := blk_frozen BK184.out 1; have hfz66_2 := blk_frozen BK184.out 2; have hfz66_3 := blk_frozen BK184.out 3; have hfz66_4 := blk_frozen BK184.out 4)))
                                                    go_roundg kj44
                                                    case measure => have := HK1.out; have := HK2.out; have := HJ26.out; have := HK4.out; have := HJ39.out; have := HJ44.out; omega
                                                    case rel => exact ⟨(wrap64 (x10_4 + 1)), (x185001_4), (x185002_4), (t187), (x185004_4), (by first | rfl | (simp; done) | (simp [*]; done)), H', ⟨by have := HK1.out; have := HK2.out; have := HJ26.out; have := HK4.out; have := HJ39.out; have := HJ44.out; omega⟩, ⟨by (with_reducible repeat (first | apply Kd.R_alloc | apply Kd.R_drewN | apply Kd.R_drew)); exact Kd.R_mono (Kd.R_far (p := ⟨gb184, 3, none⟩) (Kd.R_types HO_4.out BK184.out (by decide)) (fun _ hk => hk.2) (.int .i64 t187)) (fun _ hk => trivial)⟩, ⟨by (with_reducible repeat (first | apply Kd.R_alloc | apply Kd.R_drewN | apply Kd.R_drew)); exact Kd.R_mono (Kd.R_far (p := ⟨gb184, 3, none⟩) (Kd.R_types HO_7.out BK184.out (by decide)) (fun _ hk => hk.2) (.int .i64 t187)) (fun _ hk => trivial)⟩, ⟨by (with_reducible repeat (first | refine blk_drewN ?_ _ | refine blk_drew ?_ | refine blk_alloc ?_ _)); refine blk_far ?_ NB168_184.out _; (with_reducible repeat (first | refine blk_drewN ?_ _ | refine blk_drew ?_ | refine blk_alloc ?_ _)); exact BK168.out⟩, ⟨by (with_reducible repeat (first | refine blk_drewN ?_ _ | refine blk_drew ?_ | refine blk_alloc ?_ _)); refine blk_put (cs := #[.int .i64 x8_2, .int .i64 x185001_4, .int .i64 x185002_4, .int .i64 x185003_4, .int .i64 x185004_4]) ?_ 3 _ rfl; (with_reducible repeat (first | refine blk_drewN ?_ _ | refine blk_drew ?_ | refine blk_alloc ?_ _)); exact BK184.out⟩, ⟨by repeat (first | (with_reducible first | exact HB.out | apply below_alloc | apply pw_below_drewN | apply below_drew1 | refine below_set ?_ GE168.out | refine below_set ?_ GE184.out) | exact HB.out)⟩⟩
                                                  · rw [if_neg c63] at H
                                                    have c63b0 : ((bt ((rd_T23 t178 x8_2).f1) (ji51)) == 99) = false := beq_eq_false_iff_ne.mpr c63
                                                    have c63b1 : ((bt ((rd_T23 t178 x8_2).f1) (ji51)) != 99) = true := bne_iff_ne.mpr c63
                                                    have H' := Aside0.mk H
                                                    clear H
                                                    go_wp2_with (first | (go_at_call 48; (with_reducible refine (kindlingref01_Parse.calls kj44 x11_44 t187 t188 _ A48.out).mono ?_); rintro e w67 ⟨rfl, hb⟩; have n0_ := Aside0.mk (Kd.R_below (by (with_reducible repeat (first | apply Kd.R_alloc | apply Kd.R_drewN | apply Kd.R_drew)); exact HO_4.out) hb); have n1_ := Aside0.mk (Kd.R_below (by (with_reducible repeat (first | apply Kd.R_alloc | apply Kd.R_drewN | apply Kd.R_drew)); exact HO_7.out) hb); have n2_ := Aside0.mk (blk_below (g := gb168) (o := .cells #[.int .i64 x169000_2, .int .i64 x169001_2, .int .i64 x169002_2, .int .i64 x169003_2, .int .i64 x169004_2] 30 (0, 0)) (by (with_reducible repeat (first | refine blk_drewN ?_ _ | refine blk_drew ?_ | refine blk_alloc ?_ _)); exact BK168.out) hb); have n3_ := Aside0.mk (blk_below (g := gb184) (o := .cells #[.int .i64 x8_2, .int .i64 x185001_4, .int .i64 x185002_4, .int .i64 x185003_4, .int .i64 x185004_4] 30 (0, 0)) (by (with_reducible repeat (first | refine blk_drewN ?_ _ | refine blk_drew ?_ | refine blk_alloc ?_ _)); exact BK184.out) hb); have n4_ := Aside0.mk (below_step (by repeat (first | (with_reducible first | exact HB.out | apply below_alloc | apply pw_below_drewN | apply below_drew1 | refine below_set ?_ GE168.out | refine below_set ?_ GE184.out) | exact HB.out)) hb); clear HO_4; clear HO_7; clear BK168; clear BK184; clear HB; have HO_4 := n0_; have HO_7 := n1_; have BK168 := n2_; have BK184 := n3_; have HB := n4_; clear n0_ n1_ n2_ n3_ n4_; (try clear hb); (try clear hb2); (try clear hk); (try clear hi); have p189 : 0 ≤ (x8_2 : Int) := of_decide_eq_true (by first | (with_reducible assumption) | assumption); have q189 : x8_2 < (t178.length : Int) := of_decide_eq_true (by first | (with_reducible assumption) | assumption); obtain ⟨ad189, e189, hx189_0, hx189_1, hx189_2, hx189_3⟩ := at_T23 (Kd.R_reads' HO_7.out).2.2 x8_2 p189 q189; cases e189; replace p189 := eq_true p189; replace q189 := eq_true q189; have p54 : 0 ≤ ((ji51) : Int) := of_decide_eq_true (by first | (with_reducible assumption) | assumption); have q54 : (ji51) < (((rd_T23 t178 x8_2).f1).size : Int) := of_decide_eq_true (by first | (with_reducible assumption) | assumption); have hx54 := bt_at ((rd_T23 t178 x8_2).f1) (ji51); replace p54 := eq_true p54; replace q54 := eq_true q54; have hnb68 := NB184_168.out; have hnc68 := NB168_184.out; have hcz69_0 : w67.cell? ⟨gb184, 0, none⟩ = some (.int .i64 x8_2) := (blk_cell BK184.out 0).trans rfl; have hcz69_1 : w67.cell? ⟨gb184, 1, none⟩ = some (.int .i64 x185001_4) := (blk_cell BK184.out 1).trans rfl; have hcz69_2 : w67.cell? ⟨gb184, 2, none⟩ = some (.int .i64 x185002_4) := (blk_cell BK184.out 2).trans rfl; have hcz69_3 : w67.cell? ⟨gb184, 3, none⟩ = some (.int .i64 x185003_4) := (blk_cell BK184.out 3).trans rfl; have hcz69_4 : w67.cell? ⟨gb184, 4, none⟩ = some (.int .i64 x185004_4) := (blk_cell BK184.out 4).trans rfl; have hfz69_0 := blk_frozen BK184.out 0; have hfz69_1 := blk_frozen BK184.out 1; have hfz69_2 := blk_frozen BK184.out 2; have hfz69_3 := blk_frozen BK184.out 3; have hfz69_4 := blk_frozen BK184.out 4))
                                                    repeat (go_quiet (first | (go_at_call 48; (with_reducible refine (kindlingref01_Parse.calls kj44 x11_44 t187 t188 _ A48.out).mono ?_); rintro e w67 ⟨rfl, hb⟩; have n0_ := Aside0.mk (Kd.R_below (by (with_reducible repeat (first | apply Kd.R_alloc | apply Kd.R_drewN | apply Kd.R_drew)); exact HO_4.out) hb); have n1_ := Aside0.mk (Kd.R_below (by (with_reducible repeat (first | apply Kd.R_alloc | apply Kd.R_drewN | apply Kd.R_drew)); exact HO_7.out) hb); have n2_ := Aside0.mk (blk_below (g := gb168) (o := .cells #[.int .i64 x169000_2, .int .i64 x169001_2, .int .i64 x169002_2, .int .i64 x169003_2, .int .i64 x169004_2] 30 (0, 0)) (by (with_reducible repeat (first | refine blk_drewN ?_ _ | refine blk_drew ?_ | refine blk_alloc ?_ _)); exact BK168.out) hb); have n3_ := Aside0.mk (blk_below (g := gb184) (o := .cells #[.int .i64 x8_2, .int .i64 x185001_4, .int .i64 x185002_4, .int .i64 x185003_4, .int .i64 x185004_4] 30 (0, 0)) (by (with_reducible repeat (first | refine blk_drewN ?_ _ | refine blk_drew ?_ | refine blk_alloc ?_ _)); exact BK184.out) hb); have n4_ := Aside0.mk (below_step (by repeat (first | (with_reducible first | exact HB.out | apply below_alloc | apply pw_below_drewN | apply below_drew1 | refine below_set ?_ GE168.out | refine below_set ?_ GE184.out) | exact HB.out)) hb); clear HO_4; clear HO_7; clear BK168; clear BK184; clear HB; have HO_4 := n0_; have HO_7 := n1_; have BK168 := n2_; have BK184 := n3_; have HB := n4_; clear n0_ n1_ n2_ n3_ n4_; (try clear hb); (try clear hb2); (try clear hk); (try clear hi); have p189 : 0 ≤ (x8_2 : Int) := of_decide_eq_true (by first | (with_reducible assumption) | assumption); have q189 : x8_2 < (t178.length : Int) := of_decide_eq_true (by first | (with_reducible assumption) | assumption); obtain ⟨ad189, e189, hx189_0, hx189_1, hx189_2, hx189_3⟩ := at_T23 (Kd.R_reads' HO_7.out).2.2 x8_2 p189 q189; cases e189; replace p189 := eq_true p189; replace q189 := eq_true q189; have p54 : 0 ≤ ((ji51) : Int) := of_decide_eq_true (by first | (with_reducible assumption) | assumption); have q54 : (ji51) < (((rd_T23 t178 x8_2).f1).size : Int) := of_decide_eq_true (by first | (with_reducible assumption) | assumption); have hx54 := bt_at ((rd_T23 t178 x8_2).f1) (ji51); replace p54 := eq_true p54; replace q54 := eq_true q54; have hnb68 := NB184_168.out; have hnc68 := NB168_184.out; have hcz69_0 : w67.cell? ⟨gb184, 0, none⟩ = some (.int .i64 x8_2) := (blk_cell BK184.out 0).trans rfl; have hcz69_1 : w67.cell? ⟨gb184, 1, none⟩ = some (.int .i64 x185001_4) := (blk_cell BK184.out 1).trans rfl; have hcz69_2 : w67.cell? ⟨gb184, 2, none⟩ = some (.int .i64 x185002_4) := (blk_cell BK184.out 2).trans rfl; have hcz69_3 : w67.cell? ⟨gb184, 3, none⟩ = some (.int .i64 x185003_4) := (blk_cell BK184.out 3).trans rfl; have hcz69_4 : w67.cell? ⟨gb184, 4, none⟩ = some (.int .i64 x185004_4) := (blk_cell BK184.out 4).trans rfl; have hfz69_0 := blk_frozen BK184.out 0; have hfz69_1 := blk_frozen BK184.out 1; have hfz69_2 := blk_frozen BK184.out 2; have hfz69_3 := blk_frozen BK184.out 3; have hfz69_4 := blk_frozen BK184.out 4)); try go_wp2_with (first | (go_at_call 48; (with_reducible refine (kindlingref01_Parse.calls kj44 x11_44 t187 t188 _ A48.out).mono ?_); rintro e w67 ⟨rfl, hb⟩; have n0_ := Aside0.mk (Kd.R_below (by (with_reducible repeat (first | apply Kd.R_alloc | apply Kd.R_drewN | apply Kd.R_drew)); exact HO_4.out) hb); have n1_ := Aside0.mk (Kd.R_below (by (with_reducible repeat (first | apply Kd.R_alloc | apply Kd.R_drewN | apply Kd.R_drew)); exact HO_7.out) hb); have n2_ := Aside0.mk (blk_below (g := gb168) (o := .cells #[.int .i64 x169000_2, .int .i64 x169001_2, .int .i64 x169002_2, .int .i64 x169003_2, .int .i64 x169004_2] 30 (0, 0)) (by (with_reducible repeat (first | refine blk_drewN ?_ _ | refine blk_drew ?_ | refine blk_alloc ?_ _)); exact BK168.out) hb); have n3_ := Aside0.mk (blk_below (g := gb184) (o := .cells #[.int .i64 x8_2, .int .i64 x185001_4, .int .i64 x185002_4, .int .i64 x185003_4, .int .i64 x185004_4] 30 (0, 0)) (by (with_reducible repeat (first | refine blk_drewN ?_ _ | refine blk_drew ?_ | refine blk_alloc ?_ _)); exact BK184.out) hb); have n4_ := Aside0.mk (below_step (by repeat (first | (with_reducible first | exact HB.out | apply below_alloc | apply pw_below_drewN | apply below_drew1 | refine below_set ?_ GE168.out | refine below_set ?_ GE184.out) | exact HB.out)) hb); clear HO_4; clear HO_7; clear BK168; clear BK184; clear HB; have HO_4 := n0_; have HO_7 := n1_; have BK168 := n2_; have BK184 := n3_; have HB := n4_; clear n0_ n1_ n2_ n3_ n4_; (try clear hb); (try clear hb2); (try clear hk); (try clear hi); have p189 : 0 ≤ (x8_2 : Int) := of_decide_eq_true (by first | (with_reducible assumption) | assumption); have q189 : x8_2 < (t178.length : Int) := of_decide_eq_true (by first | (with_reducible assumption) | assumption); obtain ⟨ad189, e189, hx189_0, hx189_1, hx189_2, hx189_3⟩ := at_T23 (Kd.R_reads' HO_7.out).2.2 x8_2 p189 q189; cases e189; replace p189 := eq_true p189; replace q189 := eq_true q189; have p54 : 0 ≤ ((ji51) : Int) := of_decide_eq_true (by first | (with_reducible assumption) | assumption); have q54 : (ji51) < (((rd_T23 t178 x8_2).f1).size : Int) := of_decide_eq_true (by first | (with_reducible assumption) | assumption); have hx54 := bt_at ((rd_T23 t178 x8_2).f1) (ji51); replace p54 := eq_true p54; replace q54 := eq_true q54; have hnb68 := NB184_168.out; have hnc68 := NB168_184.out; have hcz69_0 : w67.cell? ⟨gb184, 0, none⟩ = some (.int .i64 x8_2) := (blk_cell BK184.out 0).trans rfl; have hcz69_1 : w67.cell? ⟨gb184, 1, none⟩ = some (.int .i64 x185001_4) := (blk_cell BK184.out 1).trans rfl; have hcz69_2 : w67.cell? ⟨gb184, 2, none⟩ = some (.int .i64 x185002_4) := (blk_cell BK184.out 2).trans rfl; have hcz69_3 : w67.cell? ⟨gb184, 3, none⟩ = some (.int .i64 x185003_4) := (blk_cell BK184.out 3).trans rfl; have hcz69_4 : w67.cell? ⟨gb184, 4, none⟩ = some (.int .i64 x185004_4) := (blk_cell BK184.out 4).trans rfl; have hfz69_0 := blk_frozen BK184.out 0; have hfz69_1 := blk_frozen BK184.out 1; have hfz69_2 := blk_frozen BK184.out 2; have hfz69_3 := blk_frozen BK184.out 3; have hfz69_4 := blk_frozen BK184.out 4)))
                                                    go_roundg kj44
                                                    case measure => have := HK1.out; have := HK2.out; have := HJ26.out; have := HK4.out; have := HJ39.out; have := HJ44.out; omega
                                                    case rel => exact ⟨(wrap64 (x10_4 + 1)), (x185001_4), (x185002_4), (x185003_4), (t187), (by first | rfl | (simp; done) | (simp [*]; done)), H', ⟨by have := HK1.out; have := HK2.out; have := HJ26.out; have := HK4.out; have := HJ39.out; have := HJ44.out; omega⟩, ⟨by (with_reducible repeat (first | apply Kd.R_alloc | apply Kd.R_drewN | apply Kd.R_drew)); exact Kd.R_mono (Kd.R_far (p := ⟨gb184, 4, none⟩) (Kd.R_types HO_4.out BK184.out (by decide)) (fun _ hk => hk.2) (.int .i64 t187)) (fun _ hk => trivial)⟩, ⟨by (with_reducible repeat (first | apply Kd.R_alloc | apply Kd.R_drewN | apply Kd.R_drew)); exact Kd.R_mono (Kd.R_far (p := ⟨gb184, 4, none⟩) (Kd.R_types HO_7.out BK184.out (by decide)) (fun _ hk => hk.2) (.int .i64 t187)) (fun _ hk => trivial)⟩, ⟨by (with_reducible repeat (first | refine blk_drewN ?_ _ | refine blk_drew ?_ | refine blk_alloc ?_ _)); refine blk_far ?_ NB168_184.out _; (with_reducible repeat (first | refine blk_drewN ?_ _ | refine blk_drew ?_ | refine blk_alloc ?_ _)); exact BK168.out⟩, ⟨by (with_reducible repeat (first | refine blk_drewN ?_ _ | refine blk_drew ?_ | refine blk_alloc ?_ _)); refine blk_put (cs := #[.int .i64 x8_2, .int .i64 x185001_4, .int .i64 x185002_4, .int .i64 x185003_4, .int .i64 x185004_4]) ?_ 4 _ rfl; (with_reducible repeat (first | refine blk_drewN ?_ _ | refine blk_drew ?_ | refine blk_alloc ?_ _)); exact BK184.out⟩, ⟨by repeat (first | (with_reducible first | exact HB.out | apply below_alloc | apply pw_below_drewN | apply below_drew1 | refine below_set ?_ GE168.out | refine below_set ?_ GE184.out) | exact HB.out)⟩⟩
                                            · rw [if_neg c53] at H
                                              exact absurd H (by simp)
                                          · rw [if_neg c52] at H
                                            exact absurd H (by simp)
                                        · rw [if_neg c50] at H
                                          exact absurd H (by simp)
                                      · rw [if_neg c49] at H
                                        exact absurd H (by simp)
                            · rw [if_neg c39] at H
                              exact absurd H (by simp)
                          · rw [if_neg c38] at H
                            have c38b0 : decide (x10_4 < (y175.length : Int)) = false := decide_eq_false c38
                            clear c38
                            replace H := Option.bind_eq_some_iff.mp H
                            obtain ⟨t185, A700, H⟩ := H
                            replace H : (if t185.toList = a0.toList then (some (x8_2, x185001_4, x185002_4, x185003_4, x185004_4, 0)) else (kindlingref03_Parse.l1 k4 a0 y175 t178 (wrap64 (x8_2 + 1)))) = some (r1, r2, r3, r4, r5, r6) := H
                            have A70 := Aside0.mk A700
                            clear A700
                            by_cases c71 : t185.toList = a0.toList
                            · rw [if_pos c71] at H
                              have c71b0 : (t185.toList == a0.toList) = true := beq_iff_eq.mpr c71
                              have c71b1 : (t185.toList != a0.toList) = false := bne_eq_false_iff_eq.mpr c71
                              clear c71
                              simp only [Option.some.injEq, Prod.mk.injEq] at H
                              obtain ⟨rfl, rfl, rfl, rfl, rfl, rfl⟩ := H
                              obtain ⟨Ao72, co72, eo72⟩ := Kd.R_slice HO_4.out
                              subst eo72
                              have hnb73 := NB184_168.out
                              have hnc73 := NB168_184.out
                              have hcz74_0 : wr.cell? ⟨gb184, 0, none⟩ = some (.int .i64 x8_2) := (blk_cell BK184.out 0).trans rfl
                              have hcz74_1 : wr.cell? ⟨gb184, 1, none⟩ = some (.int .i64 x185001_4) := (blk_cell BK184.out 1).trans rfl
                              have hcz74_2 : wr.cell? ⟨gb184, 2, none⟩ = some (.int .i64 x185002_4) := (blk_cell BK184.out 2).trans rfl
                              have hcz74_3 : wr.cell? ⟨gb184, 3, none⟩ = some (.int .i64 x185003_4) := (blk_cell BK184.out 3).trans rfl
                              have hcz74_4 : wr.cell? ⟨gb184, 4, none⟩ = some (.int .i64 x185004_4) := (blk_cell BK184.out 4).trans rfl
                              have hfz74_0 := blk_frozen BK184.out 0
                              have hfz74_1 := blk_frozen BK184.out 1
                              have hfz74_2 := blk_frozen BK184.out 2
                              have hfz74_3 := blk_frozen BK184.out 3
                              have hfz74_4 := blk_frozen BK184.out 4
                              go_wp2_with (first | (go_at_call 34; (with_reducible refine (kindlingref03_Text.calls k4 x8_2 x185001_4 x185002_4 x185003_4 x185004_4 t185 _ A70.out).mono ?_); rintro e w75 ⟨rfl, hb⟩; have n0_ := Aside0.mk (Kd.R_below (by (with_reducible repeat (first | apply Kd.R_alloc | apply Kd.R_drewN | apply Kd.R_drew)); exact HO_4.out) hb); have n1_ := Aside0.mk (Kd.R_below (by (with_reducible repeat (first | apply Kd.R_alloc | apply Kd.R_drewN | apply Kd.R_drew)); exact HO_7.out) hb); have n2_ := Aside0.mk (blk_below (g := gb168) (o := .cells #[.int .i64 x169000_2, .int .i64 x169001_2, .int .i64 x169002_2, .int .i64 x169003_2, .int .i64 x169004_2] 30 (0, 0)) (by (with_reducible repeat (first | refine blk_drewN ?_ _ | refine blk_drew ?_ | refine blk_alloc ?_ _)); exact BK168.out) hb); have n3_ := Aside0.mk (blk_below (g := gb184) (o := .cells #[.int .i64 x8_2, .int .i64 x185001_4, .int .i64 x185002_4, .int .i64 x185003_4, .int .i64 x185004_4] 30 (0, 0)) (by (with_reducible repeat (first | refine blk_drewN ?_ _ | refine blk_drew ?_ | refine blk_alloc ?_ _)); exact BK184.out) hb); have n4_ := Aside0.mk (below_step (by repeat (first | (with_reducible first | exact HB.out | apply below_alloc | apply pw_below_drewN | apply below_drew1 | refine below_set ?_ GE168.out | refine below_set ?_ GE184.out) | exact HB.out)) hb); clear HO_4; clear HO_7; clear BK168; clear BK184; clear HB; have HO_4 := n0_; have HO_7 := n1_; have BK168 := n2_; have BK184 := n3_; have HB := n4_; clear n0_ n1_ n2_ n3_ n4_; (try clear hb); (try clear hb2); (try clear hk); (try clear hi); have hcz76_0 : w75.cell? ⟨gb184, 0, none⟩ = some (.int .i64 x8_2) := (blk_cell BK184.out 0).trans rfl; have hcz76_1 : w75.cell? ⟨gb184, 1, none⟩ = some (.int .i64 x185001_4) := (blk_cell BK184.out 1).trans rfl; have hcz76_2 : w75.cell? ⟨gb184, 2, none⟩ = some (.int .i64 x185002_4) := (blk_cell BK184.out 2).trans rfl; have hcz76_3 : w75.cell? ⟨gb184, 3, none⟩ = some (.int .i64 x185003_4) := (blk_cell BK184.out 3).trans rfl; have hcz76_4 : w75.cell? ⟨gb184, 4, none⟩ = some (.int .i64 x185004_4) := (blk_cell BK184.out 4).trans rfl; have hfz76_0 := blk_frozen BK184.out 0; have hfz76_1 := blk_frozen BK184.out 1; have hfz76_2 := blk_frozen BK184.out 2; have hfz76_3 := blk_frozen BK184.out 3; have hfz76_4 := blk_frozen BK184.out 4; have hcz77_0 : w75.cell? ⟨gb168, 0, none⟩ = some (.int .i64 x169000_2) := (blk_cell BK168.out 0).trans rfl; have hcz77_1 : w75.cell? ⟨gb168, 1, none⟩ = some (.int .i64 x169001_2) := (blk_cell BK168.out 1).trans rfl; have hcz77_2 : w75.cell? ⟨gb168, 2, none⟩ = some (.int .i64 x169002_2) := (blk_cell BK168.out 2).trans rfl; have hcz77_3 : w75.cell? ⟨gb168, 3, none⟩ = some (.int .i64 x169003_2) := (blk_cell BK168.out 3).trans rfl; have hcz77_4 : w75.cell? ⟨gb168, 4, none⟩ = some (.int .i64 x169004_2) := (blk_cell BK168.out 4).trans rfl; have hfz77_0 := blk_frozen BK168.out 0; have hfz77_1 := blk_frozen BK168.out 1; have hfz77_2 := blk_frozen BK168.out 2; have hfz77_3 := blk_frozen BK168.out 3; have hfz77_4 := blk_frozen BK168.out 4))
                              repeat (go_quiet (first | (go_at_call 34; (with_reducible refine (kindlingref03_Text.calls k4 x8_2 x185001_4 x185002_4 x185003_4 x185004_4 t185 _ A70.out).mono ?_); rintro e w75 ⟨rfl, hb⟩; have n0_ := Aside0.mk (Kd.R_below (by (with_reducible repeat (first | apply Kd.R_alloc | apply Kd.R_drewN | apply Kd.R_drew)); exact HO_4.out) hb); have n1_ := Aside0.mk (Kd.R_below (by (with_reducible repeat (first | apply Kd.R_alloc | apply Kd.R_drewN | apply Kd.R_drew)); exact HO_7.out) hb); have n2_ := Aside0.mk (blk_below (g := gb168) (o := .cells #[.int .i64 x169000_2, .int .i64 x169001_2, .int .i64 x169002_2, .int .i64 x169003_2, .int .i64 x169004_2] 30 (0, 0)) (by (with_reducible repeat (first | refine blk_drewN ?_ _ | refine blk_drew ?_ | refine blk_alloc ?_ _)); exact BK168.out) hb); have n3_ := Aside0.mk (blk_below (g := gb184) (o := .cells #[.int .i64 x8_2, .int .i64 x185001_4, .int .i64 x185002_4, .int .i64 x185003_4, .int .i64 x185004_4] 30 (0, 0)) (by (with_reducible repeat (first | refine blk_drewN ?_ _ | refine blk_drew ?_ | refine blk_alloc ?_ _)); exact BK184.out) hb); have n4_ := Aside0.mk (below_step (by repeat (first | (with_reducible first | exact HB.out | apply below_alloc | apply pw_below_drewN | apply below_drew1 | refine below_set ?_ GE168.out | refine below_set ?_ GE184.out) | exact HB.out)) hb); clear HO_4; clear HO_7; clear BK168; clear BK184; clear HB; have HO_4 := n0_; have HO_7 := n1_; have BK168 := n2_; have BK184 := n3_; have HB := n4_; clear n0_ n1_ n2_ n3_ n4_; (try clear hb); (try clear hb2); (try clear hk); (try clear hi); have hcz76_0 : w75.cell? ⟨gb184, 0, none⟩ = some (.int .i64 x8_2) := (blk_cell BK184.out 0).trans rfl; have hcz76_1 : w75.cell? ⟨gb184, 1, none⟩ = some (.int .i64 x185001_4) := (blk_cell BK184.out 1).trans rfl; have hcz76_2 : w75.cell? ⟨gb184, 2, none⟩ = some (.int .i64 x185002_4) := (blk_cell BK184.out 2).trans rfl; have hcz76_3 : w75.cell? ⟨gb184, 3, none⟩ = some (.int .i64 x185003_4) := (blk_cell BK184.out 3).trans rfl; have hcz76_4 : w75.cell? ⟨gb184, 4, none⟩ = some (.int .i64 x185004_4) := (blk_cell BK184.out 4).trans rfl; have hfz76_0 := blk_frozen BK184.out 0; have hfz76_1 := blk_frozen BK184.out 1; have hfz76_2 := blk_frozen BK184.out 2; have hfz76_3 := blk_frozen BK184.out 3; have hfz76_4 := blk_frozen BK184.out 4; have hcz77_0 : w75.cell? ⟨gb168, 0, none⟩ = some (.int .i64 x169000_2) := (blk_cell BK168.out 0).trans rfl; have hcz77_1 : w75.cell? ⟨gb168, 1, none⟩ = some (.int .i64 x169001_2) := (blk_cell BK168.out 1).trans rfl; have hcz77_2 : w75.cell? ⟨gb168, 2, none⟩ = some (.int .i64 x169002_2) := (blk_cell BK168.out 2).trans rfl; have hcz77_3 : w75.cell? ⟨gb168, 3, none⟩ = some (.int .i64 x169003_2) := (blk_cell BK168.out 3).trans rfl; have hcz77_4 : w75.cell? ⟨gb168, 4, none⟩ = some (.int .i64 x169004_2) := (blk_cell BK168.out 4).trans rfl; have hfz77_0 := blk_frozen BK168.out 0; have hfz77_1 := blk_frozen BK168.out 1; have hfz77_2 := blk_frozen BK168.out 2; have hfz77_3 := blk_frozen BK168.out 3; have hfz77_4 := blk_frozen BK168.out 4)); try go_wp2_with (first | (go_at_call 34; (with_reducible refine (kindlingref03_Text.calls k4 x8_2 x185001_4 x185002_4 x185003_4 x185004_4 t185 _ A70.out).mono ?_); rintro e w75 ⟨rfl, hb⟩; have n0_ := Aside0.mk (Kd.R_below (by (with_reducible repeat (first | apply Kd.R_alloc | apply Kd.R_drewN | apply Kd.R_drew)); exact HO_4.out) hb); have n1_ := Aside0.mk (Kd.R_below (by (with_reducible repeat (first | apply Kd.R_alloc | apply Kd.R_drewN | apply Kd.R_drew)); exact HO_7.out) hb); have n2_ := Aside0.mk (blk_below (g := gb168) (o := .cells #[.int .i64 x169000_2, .int .i64 x169001_2, .int .i64 x169002_2, .int .i64 x169003_2, .int .i64 x169004_2] 30 (0, 0)) (by (with_reducible repeat (first | refine blk_drewN ?_ _ | refine blk_drew ?_ | refine blk_alloc ?_ _)); exact BK168.out) hb); have n3_ := Aside0.mk (blk_below (g := gb184) (o := .cells #[.int .i64 x8_2, .int .i64 x185001_4, .int .i64 x185002_4, .int .i64 x185003_4, .int .i64 x185004_4] 30 (0, 0)) (by (with_reducible repeat (first | refine blk_drewN ?_ _ | refine blk_drew ?_ | refine blk_alloc ?_ _)); exact BK184.out) hb); have n4_ := Aside0.mk (below_step (by repeat (first | (with_reducible first | exact HB.out | apply below_alloc | apply pw_below_drewN | apply below_drew1 | refine below_set ?_ GE168.out | refine below_set ?_ GE184.out) | exact HB.out)) hb); clear HO_4; clear HO_7; clear BK168; clear BK184; clear HB; have HO_4 := n0_; have HO_7 := n1_; have BK168 := n2_; have BK184 := n3_; have HB := n4_; clear n0_ n1_ n2_ n3_ n4_; (try clear hb); (try clear hb2); (try clear hk); (try clear hi); have hcz76_0 : w75.cell? ⟨gb184, 0, none⟩ = some (.int .i64 x8_2) := (blk_cell BK184.out 0).trans rfl; have hcz76_1 : w75.cell? ⟨gb184, 1, none⟩ = some (.int .i64 x185001_4) := (blk_cell BK184.out 1).trans rfl; have hcz76_2 : w75.cell? ⟨gb184, 2, none⟩ = some (.int .i64 x185002_4) := (blk_cell BK184.out 2).trans rfl; have hcz76_3 : w75.cell? ⟨gb184, 3, none⟩ = some (.int .i64 x185003_4) := (blk_cell BK184.out 3).trans rfl; have hcz76_4 : w75.cell? ⟨gb184, 4, none⟩ = some (.int .i64 x185004_4) := (blk_cell BK184.out 4).trans rfl; have hfz76_0 := blk_frozen BK184.out 0; have hfz76_1 := blk_frozen BK184.out 1; have hfz76_2 := blk_frozen BK184.out 2; have hfz76_3 := blk_frozen BK184.out 3; have hfz76_4 := blk_frozen BK184.out 4; have hcz77_0 : w75.cell? ⟨gb168, 0, none⟩ = some (.int .i64 x169000_2) := (blk_cell BK168.out 0).trans rfl; have hcz77_1 : w75.cell? ⟨gb168, 1, none⟩ = some (.int .i64 x169001_2) := (blk_cell BK168.out 1).trans rfl; have hcz77_2 : w75.cell? ⟨gb168, 2, none⟩ = some (.int .i64 x169002_2) := (blk_cell BK168.out 2).trans rfl; have hcz77_3 : w75.cell? ⟨gb168, 3, none⟩ = some (.int .i64 x169003_2) := (blk_cell BK168.out 3).trans rfl; have hcz77_4 : w75.cell? ⟨gb168, 4, none⟩ = some (.int .i64 x169004_2) := (blk_cell BK168.out 4).trans rfl; have hfz77_0 := blk_frozen BK168.out 0; have hfz77_1 := blk_frozen BK168.out 1; have hfz77_2 := blk_frozen BK168.out 2; have hfz77_3 := blk_frozen BK168.out 3; have hfz77_4 := blk_frozen BK168.out 4)))
                              refine bodyPost_ret (results_ct rfl _ _ gb168 30 #[.int .i64 x8_2, .int .i64 x185001_4, .int .i64 x185002_4, .int .i64 x185003_4, .int .i64 x185004_4] (0, 0) _ rfl (by (with_reducible repeat (first | refine blk_drewN ?_ _ | refine blk_drew ?_ | refine blk_alloc ?_ _)); refine blk_put (cs := #[.int .i64 x8_2, .int .i64 x185001_4, .int .i64 x185002_4, .int .i64 x185003_4, .int .i64 x169004_2]) ?_ 4 _ rfl; (with_reducible repeat (first | refine blk_drewN ?_ _ | refine blk_drew ?_ | refine blk_alloc ?_ _)); refine blk_put (cs := #[.int .i64 x8_2, .int .i64 x185001_4, .int .i64 x185002_4, .int .i64 x169003_2, .int .i64 x169004_2]) ?_ 3 _ rfl; (with_reducible repeat (first | refine blk_drewN ?_ _ | refine blk_drew ?_ | refine blk_alloc ?_ _)); refine blk_put (cs := #[.int .i64 x8_2, .int .i64 x185001_4, .int .i64 x169002_2, .int .i64 x169003_2, .int .i64 x169004_2]) ?_ 2 _ rfl; (with_reducible repeat (first | refine blk_drewN ?_ _ | refine blk_drew ?_ | refine blk_alloc ?_ _)); refine blk_put (cs := #[.int .i64 x8_2, .int .i64 x169001_2, .int .i64 x169002_2, .int .i64 x169003_2, .int .i64 x169004_2]) ?_ 1 _ rfl; (with_reducible repeat (first | refine blk_drewN ?_ _ | refine blk_drew ?_ | refine blk_alloc ?_ _)); refine blk_put (cs := #[.int .i64 x169000_2, .int .i64 x169001_2, .int .i64 x169002_2, .int .i64 x169003_2, .int .i64 x169004_2]) ?_ 0 _ rfl; (with_reducible repeat (first | refine blk_drewN ?_ _ | refine blk_drew ?_ | refine blk_alloc ?_ _)); exact BK168.out) Try.underlying30 rfl (by kernel_rfl)) rfl ?_
                              exact ⟨by first | rfl | (simp [errW_none, errW_some] <;> rfl) | (simp [*, errW_none, errW_some] <;> rfl), by repeat (first | (with_reducible first | exact HB.out | apply below_alloc | apply pw_below_drewN | apply below_drew1 | refine below_set ?_ GE168.out | refine below_set ?_ GE184.out) | exact HB.out)⟩
                            · rw [if_neg c71] at H
                              have c71b0 : (t185.toList == a0.toList) = false := beq_eq_false_iff_ne.mpr c71
                              have c71b1 : (t185.toList != a0.toList) = true := bne_iff_ne.mpr c71
                              have H' := Aside0.mk H
                              clear H
                              obtain ⟨Ao78, co78, eo78⟩ := Kd.R_slice HO_4.out
                              subst eo78
                              have hnb79 := NB184_168.out
                              have hnc79 := NB168_184.out
                              have hcz80_0 : wr.cell? ⟨gb184, 0, none⟩ = some (.int .i64 x8_2) := (blk_cell BK184.out 0).trans rfl
                              have hcz80_1 : wr.cell? ⟨gb184, 1, none⟩ = some (.int .i64 x185001_4) := (blk_cell BK184.out 1).trans rfl
                              have hcz80_2 : wr.cell? ⟨gb184, 2, none⟩ = some (.int .i64 x185002_4) := (blk_cell BK184.out 2).trans rfl
                              have hcz80_3 : wr.cell? ⟨gb184, 3, none⟩ = some (.int .i64 x185003_4) := (blk_cell BK184.out 3).trans rfl
                              have hcz80_4 : wr.cell? ⟨gb184, 4, none⟩ = some (.int .i64 x185004_4) := (blk_cell BK184.out 4).trans rfl
                              have hfz80_0 := blk_frozen BK184.out 0
                              have hfz80_1 := blk_frozen BK184.out 1
                              have hfz80_2 := blk_frozen BK184.out 2
                              have hfz80_3 := blk_frozen BK184.out 3
                              have hfz80_4 := blk_frozen BK184.out 4
                              go_wp2_with (first | (go_at_call 34; (with_reducible refine (kindlingref03_Text.calls k4 x8_2 x185001_4 x185002_4 x185003_4 x185004_4 t185 _ A70.out).mono ?_); rintro e w81 ⟨rfl, hb⟩; have n0_ := Aside0.mk (Kd.R_below (by (with_reducible repeat (first | apply Kd.R_alloc | apply Kd.R_drewN | apply Kd.R_drew)); exact HO_4.out) hb); have n1_ := Aside0.mk (Kd.R_below (by (with_reducible repeat (first | apply Kd.R_alloc | apply Kd.R_drewN | apply Kd.R_drew)); exact HO_7.out) hb); have n2_ := Aside0.mk (blk_below (g := gb168) (o := .cells #[.int .i64 x169000_2, .int .i64 x169001_2, .int .i64 x169002_2, .int .i64 x169003_2, .int .i64 x169004_2] 30 (0, 0)) (by (with_reducible repeat (first | refine blk_drewN ?_ _ | refine blk_drew ?_ | refine blk_alloc ?_ _)); exact BK168.out) hb); have n3_ := Aside0.mk (blk_below (g := gb184) (o := .cells #[.int .i64 x8_2, .int .i64 x185001_4, .int .i64 x185002_4, .int .i64 x185003_4, .int .i64 x185004_4] 30 (0, 0)) (by (with_reducible repeat (first | refine blk_drewN ?_ _ | refine blk_drew ?_ | refine blk_alloc ?_ _)); exact BK184.out) hb); have n4_ := Aside0.mk (below_step (by repeat (first | (with_reducible first | exact HB.out | apply below_alloc | apply pw_below_drewN | apply below_drew1 | refine below_set ?_ GE168.out | refine below_set ?_ GE184.out) | exact HB.out)) hb); clear HO_4; clear HO_7; clear BK168; clear BK184; clear HB; have HO_4 := n0_; have HO_7 := n1_; have BK168 := n2_; have BK184 := n3_; have HB := n4_; clear n0_ n1_ n2_ n3_ n4_; (try clear hb); (try clear hb2); (try clear hk); (try clear hi)))
                              repeat (go_quiet (first | (go_at_call 34; (with_reducible refine (kindlingref03_Text.calls k4 x8_2 x185001_4 x185002_4 x185003_4 x185004_4 t185 _ A70.out).mono ?_); rintro e w81 ⟨rfl, hb⟩; have n0_ := Aside0.mk (Kd.R_below (by (with_reducible repeat (first | apply Kd.R_alloc | apply Kd.R_drewN | apply Kd.R_drew)); exact HO_4.out) hb); have n1_ := Aside0.mk (Kd.R_below (by (with_reducible repeat (first | apply Kd.R_alloc | apply Kd.R_drewN | apply Kd.R_drew)); exact HO_7.out) hb); have n2_ := Aside0.mk (blk_below (g := gb168) (o := .cells #[.int .i64 x169000_2, .int .i64 x169001_2, .int .i64 x169002_2, .int .i64 x169003_2, .int .i64 x169004_2] 30 (0, 0)) (by (with_reducible repeat (first | refine blk_drewN ?_ _ | refine blk_drew ?_ | refine blk_alloc ?_ _)); exact BK168.out) hb); have n3_ := Aside0.mk (blk_below (g := gb184) (o := .cells #[.int .i64 x8_2, .int .i64 x185001_4, .int .i64 x185002_4, .int .i64 x185003_4, .int .i64 x185004_4] 30 (0, 0)) (by (with_reducible repeat (first | refine blk_drewN ?_ _ | refine blk_drew ?_ | refine blk_alloc ?_ _)); exact BK184.out) hb); have n4_ := Aside0.mk (below_step (by repeat (first | (with_reducible first | exact HB.out | apply below_alloc | apply pw_below_drewN | apply below_drew1 | refine below_set ?_ GE168.out | refine below_set ?_ GE184.out) | exact HB.out)) hb); clear HO_4; clear HO_7; clear BK168; clear BK184; clear HB; have HO_4 := n0_; have HO_7 := n1_; have BK168 := n2_; have BK184 := n3_; have HB := n4_; clear n0_ n1_ n2_ n3_ n4_; (try clear hb); (try clear hb2); (try clear hk); (try clear hi))); try go_wp2_with (first | (go_at_call 34; (with_reducible refine (kindlingref03_Text.calls k4 x8_2 x185001_4 x185002_4 x185003_4 x185004_4 t185 _ A70.out).mono ?_); rintro e w81 ⟨rfl, hb⟩; have n0_ := Aside0.mk (Kd.R_below (by (with_reducible repeat (first | apply Kd.R_alloc | apply Kd.R_drewN | apply Kd.R_drew)); exact HO_4.out) hb); have n1_ := Aside0.mk (Kd.R_below (by (with_reducible repeat (first | apply Kd.R_alloc | apply Kd.R_drewN | apply Kd.R_drew)); exact HO_7.out) hb); have n2_ := Aside0.mk (blk_below (g := gb168) (o := .cells #[.int .i64 x169000_2, .int .i64 x169001_2, .int .i64 x169002_2, .int .i64 x169003_2, .int .i64 x169004_2] 30 (0, 0)) (by (with_reducible repeat (first | refine blk_drewN ?_ _ | refine blk_drew ?_ | refine blk_alloc ?_ _)); exact BK168.out) hb); have n3_ := Aside0.mk (blk_below (g := gb184) (o := .cells #[.int .i64 x8_2, .int .i64 x185001_4, .int .i64 x185002_4, .int .i64 x185003_4, .int .i64 x185004_4] 30 (0, 0)) (by (with_reducible repeat (first | refine blk_drewN ?_ _ | refine blk_drew ?_ | refine blk_alloc ?_ _)); exact BK184.out) hb); have n4_ := Aside0.mk (below_step (by repeat (first | (with_reducible first | exact HB.out | apply below_alloc | apply pw_below_drewN | apply below_drew1 | refine below_set ?_ GE168.out | refine below_set ?_ GE184.out) | exact HB.out)) hb); clear HO_4; clear HO_7; clear BK168; clear BK184; clear HB; have HO_4 := n0_; have HO_7 := n1_; have BK168 := n2_; have BK184 := n3_; have HB := n4_; clear n0_ n1_ n2_ n3_ n4_; (try clear hb); (try clear hb2); (try clear hk); (try clear hi))))
                              go_roundg k4
                              case measure => have := HK1.out; have := HK2.out; have := HJ26.out; have := HK4.out; omega
                              case rel => exact ⟨(wrap64 (x8_2 + 1)), (x169000_2), (x169001_2), (x169002_2), (x169003_2), (x169004_2), (by first | rfl | (simp; done) | (simp [*]; done)), H', ⟨by have := HK1.out; have := HK2.out; have := HJ26.out; have := HK4.out; omega⟩, ⟨by (with_reducible repeat (first | apply Kd.R_alloc | apply Kd.R_drewN | apply Kd.R_drew)); exact HO_4.out⟩, ⟨by (with_reducible repeat (first | apply Kd.R_alloc | apply Kd.R_drewN | apply Kd.R_drew)); exact HO_7.out⟩, ⟨by (with_reducible repeat (first | refine blk_drewN ?_ _ | refine blk_drew ?_ | refine blk_alloc ?_ _)); exact BK168.out⟩, ⟨by repeat (first | (with_reducible first | exact HB.out | apply below_alloc | apply pw_below_drewN | apply below_drew1 | refine below_set ?_ GE168.out | refine below_set ?_ GE184.out) | exact HB.out)⟩⟩
              · rw [if_neg c26] at H
                have c26b0 : decide (x8_2 < (t178.length : Int)) = false := decide_eq_false c26
                clear c26
                simp only [Option.some.injEq, Prod.mk.injEq] at H
                obtain ⟨rfl, rfl, rfl, rfl, rfl, rfl⟩ := H
                obtain ⟨Ao82, co82, eo82⟩ := Kd.R_slice HO_7.out
                subst eo82
                have hcz83_0 : wr.cell? ⟨gb168, 0, none⟩ = some (.int .i64 x169000_2) := (blk_cell BK168.out 0).trans rfl
                have hcz83_1 : wr.cell? ⟨gb168, 1, none⟩ = some (.int .i64 x169001_2) := (blk_cell BK168.out 1).trans rfl
                have hcz83_2 : wr.cell? ⟨gb168, 2, none⟩ = some (.int .i64 x169002_2) := (blk_cell BK168.out 2).trans rfl
                have hcz83_3 : wr.cell? ⟨gb168, 3, none⟩ = some (.int .i64 x169003_2) := (blk_cell BK168.out 3).trans rfl
                have hcz83_4 : wr.cell? ⟨gb168, 4, none⟩ = some (.int .i64 x169004_2) := (blk_cell BK168.out 4).trans rfl
                have hfz83_0 := blk_frozen BK168.out 0
                have hfz83_1 := blk_frozen BK168.out 1
                have hfz83_2 := blk_frozen BK168.out 2
                have hfz83_3 := blk_frozen BK168.out 3
                have hfz83_4 := blk_frozen BK168.out 4
                go_wp2
                repeat (go_quiet (fail); try go_wp2)
                refine bodyPost_ret (results_ct rfl _ _ gb168 30 #[.int .i64 0, .int .i64 0, .int .i64 0, .int .i64 0, .int .i64 0] (0, 0) _ rfl (by (with_reducible repeat (first | refine blk_drewN ?_ _ | refine blk_drew ?_ | refine blk_alloc ?_ _)); refine blk_put (cs := #[.int .i64 0, .int .i64 0, .int .i64 0, .int .i64 0, .int .i64 x169004_2]) ?_ 4 _ rfl; (with_reducible repeat (first | refine blk_drewN ?_ _ | refine blk_drew ?_ | refine blk_alloc ?_ _)); refine blk_put (cs := #[.int .i64 0, .int .i64 0, .int .i64 0, .int .i64 x169003_2, .int .i64 x169004_2]) ?_ 3 _ rfl; (with_reducible repeat (first | refine blk_drewN ?_ _ | refine blk_drew ?_ | refine blk_alloc ?_ _)); refine blk_put (cs := #[.int .i64 0, .int .i64 0, .int .i64 x169002_2, .int .i64 x169003_2, .int .i64 x169004_2]) ?_ 2 _ rfl; (with_reducible repeat (first | refine blk_drewN ?_ _ | refine blk_drew ?_ | refine blk_alloc ?_ _)); refine blk_put (cs := #[.int .i64 0, .int .i64 x169001_2, .int .i64 x169002_2, .int .i64 x169003_2, .int .i64 x169004_2]) ?_ 1 _ rfl; (with_reducible repeat (first | refine blk_drewN ?_ _ | refine blk_drew ?_ | refine blk_alloc ?_ _)); refine blk_put (cs := #[.int .i64 x169000_2, .int .i64 x169001_2, .int .i64 x169002_2, .int .i64 x169003_2, .int .i64 x169004_2]) ?_ 0 _ rfl; (with_reducible repeat (first | refine blk_drewN ?_ _ | refine blk_drew ?_ | refine blk_alloc ?_ _)); exact BK168.out) Try.underlying30 rfl (by kernel_rfl)) rfl ?_
                exact ⟨by first | rfl | (simp [errW_none, errW_some] <;> rfl) | (simp [*, errW_none, errW_some] <;> rfl), by repeat (first | (with_reducible first | exact HB.out | apply below_alloc | apply pw_below_drewN | apply below_drew1 | refine below_set ?_ GE168.out) | exact HB.out)⟩
        · rw [if_neg c22] at H
          exact absurd H (by simp)

end Go.Proofs.Ytebjdjdlpmplpaa.Tx
