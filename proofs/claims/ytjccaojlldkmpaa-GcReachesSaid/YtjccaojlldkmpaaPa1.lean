-- PRINTED by print.py (a twelfth state) out of the translation. Not trusted: Lean checks it.
import Derived.Test.YtjccaojlldkmpaaPa0
namespace Go.Proofs.Ytjccaojlldkmpaa.Pa
open Go.RowKit Go.Proofs.YtjccaojlldkmpaaW.PrintWords Go.Proofs.YtjccaojlldkmpaaW.PrintLast Go.Proofs.YtjccaojlldkmpaaW.PrintMore
attribute [local go_sem] max2_int min2_int max_two min_two max_three min_three max_four min_four   -- for this text's walks alone
set_option linter.unusedVariables false
set_option linter.unusedSimpArgs false

/-! ### kindlingref01_Among: function 41 -/
def kindlingref01_Among.f (a0 : Int) (a1 : Int) : Option (Int) := if a1 < 1 then (some 0) else (if a1 = 0 then (none) else (if (Int.tmod a0 a1) < 0 then (some (wrap64 ((Int.tmod a0 a1) + a1))) else (some (Int.tmod a0 a1))))
set_option maxHeartbeats 8000000 in
set_option maxRecDepth 100000 in
theorem kindlingref01_Among.calls (a0 : Int) (a1 : Int) (r : Int) (w : World) (h : kindlingref01_Among.f a0 a1 = some r) :
    Calls Try.prog 41 #[.int .i64 a0, .int .i64 a1] w fun e w' => e = .returned (.int .i64 r) ∧ Drawn0 w w' := by
  have H : (if a1 < 1 then (some 0) else (if a1 = 0 then (none) else (if (Int.tmod a0 a1) < 0 then (some (wrap64 ((Int.tmod a0 a1) + a1))) else (some (Int.tmod a0 a1))))) = some r := h
  clear h
  by_cases c3 : a1 < 1
  · rw [if_pos c3] at H
    have c3b0 : decide (a1 < 1) = true := decide_eq_true c3
    clear c3
    obtain rfl := Option.some.inj H
    go_enter Try.func41, Try.ntmps41
    go_wp2
    go_ret
    exact ⟨by first | rfl | (simp; done) | (simp [*]; done), by repeat (first | exact Drawn0.refl _ | apply Drawn0.step)⟩
  · rw [if_neg c3] at H
    have c3b0 : decide (a1 < 1) = false := decide_eq_false c3
    clear c3
    by_cases c4 : a1 = 0
    · rw [if_pos c4] at H
      exact absurd H (by simp)
    · rw [if_neg c4] at H
      have c4b0 : (a1 == 0) = false := beq_eq_false_iff_ne.mpr c4
      have c4b1 : (a1 != 0) = true := bne_iff_ne.mpr c4
      by_cases c5 : (Int.tmod a0 a1) < 0
      · rw [if_pos c5] at H
        have c5b0 : decide ((Int.tmod a0 a1) < 0) = true := decide_eq_true c5
        clear c5
        obtain rfl := Option.some.inj H
        go_enter Try.func41, Try.ntmps41
        go_wp2
        go_ret
        exact ⟨by first | rfl | (simp; done) | (simp [*]; done), by repeat (first | exact Drawn0.refl _ | apply Drawn0.step)⟩
      · rw [if_neg c5] at H
        have c5b0 : decide ((Int.tmod a0 a1) < 0) = false := decide_eq_false c5
        clear c5
        obtain rfl := Option.some.inj H
        go_enter Try.func41, Try.ntmps41
        go_wp2
        go_ret
        exact ⟨by first | rfl | (simp; done) | (simp [*]; done), by repeat (first | exact Drawn0.refl _ | apply Drawn0.step)⟩

/-! ### kindlingref04_Heap: function 14 -/
mutual
def kindlingref04_Heap.l0 : Nat → List (S71) → List (S71) → Int → Int → Option ((List (S71)) × Int)
  | 0, _, _, _, _ => none
  | k + 1, x0, x4, x5, x6 => if x6 < (x0.length : Int) then (kindlingref04_Heap.j1 k x0 x4 x5 x6 (decide (x6 < 40))) else (kindlingref04_Heap.j1 k x0 x4 x5 x6 false)
def kindlingref04_Heap.j1 : Nat → List (S71) → List (S71) → Int → Int → Bool → Option ((List (S71)) × Int)
  | 0, _, _, _, _, _ => none
  | k + 1, x0, x4, x5, x6, x16 => if x16 = true then (if 0 ≤ x6 then (if x6 < (x0.length : Int) then ((kindlingref01_Among.f ((rd_T71 x0 x6).f0) 5).bind fun t103 => (if (((rd_T71 x0 x6).f2).length : Int) > 12 then (kindlingref04_Heap.j2 k x0 x4 x5 x6 12 (wrap64 (1 + t103)) ((rd_T71 x0 x6).f1) ((rd_T71 x0 x6).f2) ((rd_T71 x0 x6).f3)) else (kindlingref04_Heap.j2 k x0 x4 x5 x6 (((rd_T71 x0 x6).f2).length : Int) (wrap64 (1 + t103)) ((rd_T71 x0 x6).f1) ((rd_T71 x0 x6).f2) ((rd_T71 x0 x6).f3)))) else (none)) else (none)) else (some (x4, x5))
def kindlingref04_Heap.j2 : Nat → List (S71) → List (S71) → Int → Int → Int → Int → Int → List Int → Int → Option ((List (S71)) × Int)
  | 0, _, _, _, _, _, _, _, _, _ => none
  | k + 1, x0, x4, x5, x6, x8, x103000, x103001, x103002, x103003 => if x103000 = 2 then (kindlingref04_Heap.j3 k x0 x4 x5 x6 x8 (decide (x8 > 1)) x103000 x103001 x103002 x103003) else (kindlingref04_Heap.j3 k x0 x4 x5 x6 x8 false x103000 x103001 x103002 x103003)
def kindlingref04_Heap.j3 : Nat → List (S71) → List (S71) → Int → Int → Int → Bool → Int → Int → List Int → Int → Option ((List (S71)) × Int)
  | 0, _, _, _, _, _, _, _, _, _, _ => none
  | k + 1, x0, x4, x5, x6, x8, x39, x103000, x103001, x103002, x103003 => if x39 = true then (kindlingref04_Heap.j4 k x0 x4 x5 x6 1 x103000 x103001 x103002 x103003) else (kindlingref04_Heap.j4 k x0 x4 x5 x6 x8 x103000 x103001 x103002 x103003)
def kindlingref04_Heap.j4 : Nat → List (S71) → List (S71) → Int → Int → Int → Int → Int → List Int → Int → Option ((List (S71)) × Int)
  | 0, _, _, _, _, _, _, _, _, _ => none
  | k + 1, x0, x4, x5, x6, x8, x103000, x103001, x103002, x103003 => (some (([] : List Int) : List Int)).bind fun y104 => (if 0 ≤ x8 then (if x8 ≤ (x103002.length : Int) then (if y104.length + (x103002.take (x8 : Int).toNat).length < 17592186044416 then (if x8 = 0 then (kindlingref04_Heap.j5 k x0 x4 x5 x6 1 x103000 x103001 (([(-1)] : List Int)) x103003) else (kindlingref04_Heap.j5 k x0 x4 x5 x6 x8 x103000 x103001 (y104 ++ (x103002.take (x8 : Int).toNat)) x103003)) else (none)) else (none)) else (none))
def kindlingref04_Heap.j5 : Nat → List (S71) → List (S71) → Int → Int → Int → Int → Int → List Int → Int → Option ((List (S71)) × Int)
  | 0, _, _, _, _, _, _, _, _, _ => none
  | k + 1, x0, x4, x5, x6, x8, x103000, x103001, x103002, x103003 => if x103000 = 4 then (if x4.length < 2932031007402 then (kindlingref04_Heap.l0 k x0 (x4 ++ [(⟨x103000, 0, x103002, x103003⟩ : S71)]) (wrap64 ((wrap64 (x5 + 1)) + x8)) (wrap64 (x6 + 1))) else (none)) else (if x103000 = 5 then ((kindlingref01_Among.f x103001 (wrap64 (x8 + 1))).bind fun t117 => (if x4.length < 2932031007402 then (kindlingref04_Heap.l0 k x0 (x4 ++ [(⟨x103000, t117, x103002, x103003⟩ : S71)]) (wrap64 ((wrap64 (x5 + 1)) + x8)) (wrap64 (x6 + 1))) else (none))) else (if x4.length < 2932031007402 then (kindlingref04_Heap.l0 k x0 (x4 ++ [(⟨x103000, x8, x103002, x103003⟩ : S71)]) (wrap64 ((wrap64 (x5 + 1)) + x8)) (wrap64 (x6 + 1))) else (none)))
end
def kindlingref04_Heap.f (k : Nat) (l0 : List (S71)) : Option ((List (S71)) × Int) := kindlingref04_Heap.l0 k l0 ([] : List (S71)) 64 0
theorem kindlingref04_Heap.mono_l : ∀ k, (∀ y0 y1 y2 y3, LeO (kindlingref04_Heap.l0 k y0 y1 y2 y3) (kindlingref04_Heap.l0 (k + 1) y0 y1 y2 y3)) ∧ (∀ y0 y1 y2 y3 y4, LeO (kindlingref04_Heap.j1 k y0 y1 y2 y3 y4) (kindlingref04_Heap.j1 (k + 1) y0 y1 y2 y3 y4)) ∧ (∀ y0 y1 y2 y3 y4 y5 y6 y7 y8, LeO (kindlingref04_Heap.j2 k y0 y1 y2 y3 y4 y5 y6 y7 y8) (kindlingref04_Heap.j2 (k + 1) y0 y1 y2 y3 y4 y5 y6 y7 y8)) ∧ (∀ y0 y1 y2 y3 y4 y5 y6 y7 y8 y9, LeO (kindlingref04_Heap.j3 k y0 y1 y2 y3 y4 y5 y6 y7 y8 y9) (kindlingref04_Heap.j3 (k + 1) y0 y1 y2 y3 y4 y5 y6 y7 y8 y9)) ∧ (∀ y0 y1 y2 y3 y4 y5 y6 y7 y8, LeO (kindlingref04_Heap.j4 k y0 y1 y2 y3 y4 y5 y6 y7 y8) (kindlingref04_Heap.j4 (k + 1) y0 y1 y2 y3 y4 y5 y6 y7 y8)) ∧ (∀ y0 y1 y2 y3 y4 y5 y6 y7 y8, LeO (kindlingref04_Heap.j5 k y0 y1 y2 y3 y4 y5 y6 y7 y8) (kindlingref04_Heap.j5 (k + 1) y0 y1 y2 y3 y4 y5 y6 y7 y8))
  | 0 => ⟨fun _ _ _ _ r h => by simp [kindlingref04_Heap.l0] at h, fun _ _ _ _ _ r h => by simp [kindlingref04_Heap.j1] at h, fun _ _ _ _ _ _ _ _ _ r h => by simp [kindlingref04_Heap.j2] at h, fun _ _ _ _ _ _ _ _ _ _ r h => by simp [kindlingref04_Heap.j3] at h, fun _ _ _ _ _ _ _ _ _ r h => by simp [kindlingref04_Heap.j4] at h, fun _ _ _ _ _ _ _ _ _ r h => by simp [kindlingref04_Heap.j5] at h⟩
  | k + 1 => by
    obtain ⟨ih0, ih1, ih2, ih3, ih4, ih5⟩ := kindlingref04_Heap.mono_l k
    refine ⟨?_, ?_, ?_, ?_, ?_, ?_⟩
    · intro y0 y1 y2 y3
      unfold kindlingref04_Heap.l0
      repeat' first
      | (with_reducible exact ih0 _ _ _ _)
      | (with_reducible exact ih1 _ _ _ _ _)
      | (with_reducible exact ih2 _ _ _ _ _ _ _ _ _)
      | (with_reducible exact ih3 _ _ _ _ _ _ _ _ _ _)
      | (with_reducible exact ih4 _ _ _ _ _ _ _ _ _)
      | (with_reducible exact ih5 _ _ _ _ _ _ _ _ _)
      | (with_reducible exact LeO.refl _)
      | (with_reducible exact LeO.none _)
      | (with_reducible refine LeO.ite ?_ ?_)
      | (with_reducible refine LeO.bind ?_ (fun _ => ?_))
      | exact ih0 _ _ _ _
      | exact ih1 _ _ _ _ _
      | exact ih2 _ _ _ _ _ _ _ _ _
      | exact ih3 _ _ _ _ _ _ _ _ _ _
      | exact ih4 _ _ _ _ _ _ _ _ _
      | exact ih5 _ _ _ _ _ _ _ _ _
      | exact LeO.none _
      | refine LeO.ite ?_ ?_
      | refine LeO.bind ?_ (fun _ => ?_)
    · intro y0 y1 y2 y3 y4
      unfold kindlingref04_Heap.j1
      repeat' first
      | (with_reducible exact ih0 _ _ _ _)
      | (with_reducible exact ih1 _ _ _ _ _)
      | (with_reducible exact ih2 _ _ _ _ _ _ _ _ _)
      | (with_reducible exact ih3 _ _ _ _ _ _ _ _ _ _)
      | (with_reducible exact ih4 _ _ _ _ _ _ _ _ _)
      | (with_reducible exact ih5 _ _ _ _ _ _ _ _ _)
      | (with_reducible exact LeO.refl _)
      | (with_reducible exact LeO.none _)
      | (with_reducible refine LeO.ite ?_ ?_)
      | (with_reducible refine LeO.bind ?_ (fun _ => ?_))
      | exact ih0 _ _ _ _
      | exact ih1 _ _ _ _ _
      | exact ih2 _ _ _ _ _ _ _ _ _
      | exact ih3 _ _ _ _ _ _ _ _ _ _
      | exact ih4 _ _ _ _ _ _ _ _ _
      | exact ih5 _ _ _ _ _ _ _ _ _
      | exact LeO.none _
      | refine LeO.ite ?_ ?_
      | refine LeO.bind ?_ (fun _ => ?_)
    · intro y0 y1 y2 y3 y4 y5 y6 y7 y8
      unfold kindlingref04_Heap.j2
      repeat' first
      | (with_reducible exact ih0 _ _ _ _)
      | (with_reducible exact ih1 _ _ _ _ _)
      | (with_reducible exact ih2 _ _ _ _ _ _ _ _ _)
      | (with_reducible exact ih3 _ _ _ _ _ _ _ _ _ _)
      | (with_reducible exact ih4 _ _ _ _ _ _ _ _ _)
      | (with_reducible exact ih5 _ _ _ _ _ _ _ _ _)
      | (with_reducible exact LeO.refl _)
      | (with_reducible exact LeO.none _)
      | (with_reducible refine LeO.ite ?_ ?_)
      | (with_reducible refine LeO.bind ?_ (fun _ => ?_))
      | exact ih0 _ _ _ _
      | exact ih1 _ _ _ _ _
      | exact ih2 _ _ _ _ _ _ _ _ _
      | exact ih3 _ _ _ _ _ _ _ _ _ _
      | exact ih4 _ _ _ _ _ _ _ _ _
      | exact ih5 _ _ _ _ _ _ _ _ _
      | exact LeO.none _
      | refine LeO.ite ?_ ?_
      | refine LeO.bind ?_ (fun _ => ?_)
    · intro y0 y1 y2 y3 y4 y5 y6 y7 y8 y9
      unfold kindlingref04_Heap.j3
      repeat' first
      | (with_reducible exact ih0 _ _ _ _)
      | (with_reducible exact ih1 _ _ _ _ _)
      | (with_reducible exact ih2 _ _ _ _ _ _ _ _ _)
      | (with_reducible exact ih3 _ _ _ _ _ _ _ _ _ _)
      | (with_reducible exact ih4 _ _ _ _ _ _ _ _ _)
      | (with_reducible exact ih5 _ _ _ _ _ _ _ _ _)
      | (with_reducible exact LeO.refl _)
      | (with_reducible exact LeO.none _)
      | (with_reducible refine LeO.ite ?_ ?_)
      | (with_reducible refine LeO.bind ?_ (fun _ => ?_))
      | exact ih0 _ _ _ _
      | exact ih1 _ _ _ _ _
      | exact ih2 _ _ _ _ _ _ _ _ _
      | exact ih3 _ _ _ _ _ _ _ _ _ _
      | exact ih4 _ _ _ _ _ _ _ _ _
      | exact ih5 _ _ _ _ _ _ _ _ _
      | exact LeO.none _
      | refine LeO.ite ?_ ?_
      | refine LeO.bind ?_ (fun _ => ?_)
    · intro y0 y1 y2 y3 y4 y5 y6 y7 y8
      unfold kindlingref04_Heap.j4
      repeat' first
      | (with_reducible exact ih0 _ _ _ _)
      | (with_reducible exact ih1 _ _ _ _ _)
      | (with_reducible exact ih2 _ _ _ _ _ _ _ _ _)
      | (with_reducible exact ih3 _ _ _ _ _ _ _ _ _ _)
      | (with_reducible exact ih4 _ _ _ _ _ _ _ _ _)
      | (with_reducible exact ih5 _ _ _ _ _ _ _ _ _)
      | (with_reducible exact LeO.refl _)
      | (with_reducible exact LeO.none _)
      | (with_reducible refine LeO.ite ?_ ?_)
      | (with_reducible refine LeO.bind ?_ (fun _ => ?_))
      | exact ih0 _ _ _ _
      | exact ih1 _ _ _ _ _
      | exact ih2 _ _ _ _ _ _ _ _ _
      | exact ih3 _ _ _ _ _ _ _ _ _ _
      | exact ih4 _ _ _ _ _ _ _ _ _
      | exact ih5 _ _ _ _ _ _ _ _ _
      | exact LeO.none _
      | refine LeO.ite ?_ ?_
      | refine LeO.bind ?_ (fun _ => ?_)
    · intro y0 y1 y2 y3 y4 y5 y6 y7 y8
      unfold kindlingref04_Heap.j5
      repeat' first
      | (with_reducible exact ih0 _ _ _ _)
      | (with_reducible exact ih1 _ _ _ _ _)
      | (with_reducible exact ih2 _ _ _ _ _ _ _ _ _)
      | (with_reducible exact ih3 _ _ _ _ _ _ _ _ _ _)
      | (with_reducible exact ih4 _ _ _ _ _ _ _ _ _)
      | (with_reducible exact ih5 _ _ _ _ _ _ _ _ _)
      | (with_reducible exact LeO.refl _)
      | (with_reducible exact LeO.none _)
      | (with_reducible refine LeO.ite ?_ ?_)
      | (with_reducible refine LeO.bind ?_ (fun _ => ?_))
      | exact ih0 _ _ _ _
      | exact ih1 _ _ _ _ _
      | exact ih2 _ _ _ _ _ _ _ _ _
      | exact ih3 _ _ _ _ _ _ _ _ _ _
      | exact ih4 _ _ _ _ _ _ _ _ _
      | exact ih5 _ _ _ _ _ _ _ _ _
      | exact LeO.none _
      | refine LeO.ite ?_ ?_
      | refine LeO.bind ?_ (fun _ => ?_)
theorem kindlingref04_Heap.mono : ∀ a0 k, LeO (kindlingref04_Heap.f k a0) (kindlingref04_Heap.f (k + 1) a0) := by
  intro a0 k
  obtain ⟨ih0, ih1, ih2, ih3, ih4, ih5⟩ := kindlingref04_Heap.mono_l k
  unfold kindlingref04_Heap.f
  repeat' first
      | (with_reducible exact ih0 _ _ _ _)
      | (with_reducible exact ih1 _ _ _ _ _)
      | (with_reducible exact ih2 _ _ _ _ _ _ _ _ _)
      | (with_reducible exact ih3 _ _ _ _ _ _ _ _ _ _)
      | (with_reducible exact ih4 _ _ _ _ _ _ _ _ _)
      | (with_reducible exact ih5 _ _ _ _ _ _ _ _ _)
      | (with_reducible exact LeO.refl _)
      | (with_reducible exact LeO.none _)
      | (with_reducible refine LeO.ite ?_ ?_)
      | (with_reducible refine LeO.bind ?_ (fun _ => ?_))
      | exact ih0 _ _ _ _
      | exact ih1 _ _ _ _ _
      | exact ih2 _ _ _ _ _ _ _ _ _
      | exact ih3 _ _ _ _ _ _ _ _ _ _
      | exact ih4 _ _ _ _ _ _ _ _ _
      | exact ih5 _ _ _ _ _ _ _ _ _
      | exact LeO.none _
      | refine LeO.ite ?_ ?_
      | refine LeO.bind ?_ (fun _ => ?_)
set_option maxHeartbeats 8000000 in
set_option maxRecDepth 100000 in
theorem kindlingref04_Heap.calls (k : Nat) (A0 : Option Addr) (c0 : Nat) (l0 : List (S71)) (r1 : List (S71)) (r2 : Int) (w : World) (hr0 : Kd.C k71 w A0 l0.length l0) (hc0 : l0.length ≤ c0) (h : kindlingref04_Heap.f k l0 = some (r1, r2)) :
    Calls Try.prog 14 #[.slice A0 l0.length c0] w fun e w' => ∃ v0_ : Value, e = .returned (.tuple #[v0_, .int .i64 r2]) ∧ Kd.S k71 71 w' w.heap.size (fun _ => True) v0_ r1 ∧ Below w.heap.size w w' := by
  have hu71 := Try.underlying71
  have HR0 := Aside0.mk hr0
  have HC0 := Aside0.mk hc0
  clear hr0 hc0
  have HB := Aside0.mk (Below.refl w.heap.size w)
  have H : (kindlingref04_Heap.l0 k l0 ([] : List (S71)) 64 0) = some (r1, r2) := h
  clear h
  have H' := Aside0.mk H
  clear H
  go_enter Try.func14, Try.ntmps14
  go_wp2
  go_loopg [4, 5, 6] k (fun kq v4 v5 v6 w' => ∃ (x4_1 : List (S71)) (x5_1 : Int) (x6_1 : Int), v5 = .int .i64 x5_1 ∧ v6 = .int .i64 x6_1 ∧ Aside0 (kindlingref04_Heap.l0 kq l0 x4_1 x5_1 x6_1 = some (r1, r2)) ∧ Aside0 (kq ≤ k) ∧ Aside0 (Kd.S k71 71 w' w.heap.size (fun _ => True) v4 x4_1) ∧ Aside0 (Below w.heap.size w w'))
  case atStart => exact ⟨(([] : List (S71))), (64), (0), (by first | rfl | (simp; done) | (simp [*]; done)), (by first | rfl | (simp; done) | (simp [*]; done)), H', ⟨Nat.le_refl _⟩, ⟨by first | exact Kd.S_nil _ _ _ _ _ | exact Kd.N_nil _ _ _ _ _ | exact Kd.V_nil _ _ _ _ _ | exact Kd.Q_nil _ _ _ _ _ | exact Kd.R_nil _ _ _ _ _⟩, ⟨by repeat (first | (with_reducible first | exact HB.out | apply below_alloc | apply pw_below_drewN | apply below_drew1) | exact HB.out)⟩⟩
  case round =>
    clear H'
    try clear c1
    obtain ⟨x4_1, x5_1, x6_1, rfl, rfl, HA, HK1, HO_4, HB⟩ := hrel
    cases gk with
    | zero => exact absurd HA.out (by simp [kindlingref04_Heap.l0])
    | succ k1 =>
      have H := HA.out
      clear HA
      simp only [kindlingref04_Heap.l0] at H
      have HC2 := Aside0.mk H
      clear H
      go_upto_region 4 with (fail)
      go_cut [16] (fun v16 wc => ∃ (kq : Nat) (x16_1 : Bool), v16 = .bool x16_1 ∧ Aside0 (kindlingref04_Heap.j1 kq l0 x4_1 x5_1 x6_1 x16_1 = some (r1, r2)) ∧ Aside0 (kq ≤ k1) ∧ Aside0 (Kd.S k71 71 wc w.heap.size (fun _ => True) u4 x4_1) ∧ Aside0 (Below w.heap.size w wc))
      case first =>
        have H := HC2.out
        clear HC2
        by_cases c3 : x6_1 < (l0.length : Int)
        · rw [if_pos c3] at H
          have c3b0 : decide (x6_1 < (l0.length : Int)) = true := decide_eq_true c3
          clear c3
          (first | rw [c3b0] | (simp only [i64_w, i32_w]; rw [c3b0]) | skip)
          have H' := Aside0.mk H
          clear H
          go_wp2
          go_meet
          case rel => exact ⟨_, (decide (x6_1 < 40)), (by first | rfl | (simp; done) | (simp [*]; done)), H', ⟨by have := HK1.out; first | omega | exact Nat.le_refl _⟩, ⟨by (with_reducible repeat (first | apply Kd.S_alloc | apply Kd.S_drewN | apply Kd.S_drew)); exact HO_4.out⟩, ⟨by repeat (first | (with_reducible first | exact HB.out | apply below_alloc | apply pw_below_drewN | apply below_drew1) | exact HB.out)⟩⟩
        · rw [if_neg c3] at H
          have c3b0 : decide (x6_1 < (l0.length : Int)) = false := decide_eq_false c3
          clear c3
          (first | rw [c3b0] | (simp only [i64_w, i32_w]; rw [c3b0]) | skip)
          have H' := Aside0.mk H
          clear H
          go_wp2
          go_meet
          case rel => exact ⟨_, (false), (by first | rfl | (simp; done) | (simp [*]; done)), H', ⟨by have := HK1.out; first | omega | exact Nat.le_refl _⟩, ⟨by (with_reducible repeat (first | apply Kd.S_alloc | apply Kd.S_drewN | apply Kd.S_drew)); exact HO_4.out⟩, ⟨by repeat (first | (with_reducible first | exact HB.out | apply below_alloc | apply pw_below_drewN | apply below_drew1) | exact HB.out)⟩⟩
      case rest =>
        clear HC2
        try clear c1
        try clear p2
        try clear c3
        try clear c3b0
        obtain ⟨kq, x16_1, rfl, HA, HJ1, HO_4, HB⟩ := hcut
        cases kq with
        | zero => exact absurd HA.out (by simp [kindlingref04_Heap.j1])
        | succ kj1 =>
          have H := HA.out
          clear HA
          simp only [kindlingref04_Heap.j1] at H
          by_cases c4 : x16_1 = true
          · subst c4
            have H1 : (if 0 ≤ x6_1 then (if x6_1 < (l0.length : Int) then ((kindlingref01_Among.f ((rd_T71 l0 x6_1).f0) 5).bind fun t103 => (if (((rd_T71 l0 x6_1).f2).length : Int) > 12 then (kindlingref04_Heap.j2 kj1 l0 x4_1 x5_1 x6_1 12 (wrap64 (1 + t103)) ((rd_T71 l0 x6_1).f1) ((rd_T71 l0 x6_1).f2) ((rd_T71 l0 x6_1).f3)) else (kindlingref04_Heap.j2 kj1 l0 x4_1 x5_1 x6_1 (((rd_T71 l0 x6_1).f2).length : Int) (wrap64 (1 + t103)) ((rd_T71 l0 x6_1).f1) ((rd_T71 l0 x6_1).f2) ((rd_T71 l0 x6_1).f3)))) else (none)) else (none)) = some (r1, r2) := by rw [if_pos rfl] at H; exact H
            clear H
            have H := H1
            clear H1
            by_cases c5 : 0 ≤ x6_1
            · rw [if_pos c5] at H
              have c5b0 : decide (0 ≤ x6_1) = true := decide_eq_true c5
              clear c5
              by_cases c6 : x6_1 < (l0.length : Int)
              · rw [if_pos c6] at H
                have c6b0 : decide (x6_1 < (l0.length : Int)) = true := decide_eq_true c6
                clear c6
                replace H := Option.bind_eq_some_iff.mp H
                obtain ⟨t103, A70, H⟩ := H
                replace H : (if (((rd_T71 l0 x6_1).f2).length : Int) > 12 then (kindlingref04_Heap.j2 kj1 l0 x4_1 x5_1 x6_1 12 (wrap64 (1 + t103)) ((rd_T71 l0 x6_1).f1) ((rd_T71 l0 x6_1).f2) ((rd_T71 l0 x6_1).f3)) else (kindlingref04_Heap.j2 kj1 l0 x4_1 x5_1 x6_1 (((rd_T71 l0 x6_1).f2).length : Int) (wrap64 (1 + t103)) ((rd_T71 l0 x6_1).f1) ((rd_T71 l0 x6_1).f2) ((rd_T71 l0 x6_1).f3))) = some (r1, r2) := H
                have A7 := Aside0.mk A70
                clear A70
                have HC8 := Aside0.mk H
                clear H
                have p101 : 0 ≤ (x6_1 : Int) := of_decide_eq_true (by first | (with_reducible assumption) | assumption)
                have q101 : x6_1 < (l0.length : Int) := of_decide_eq_true (by first | (with_reducible assumption) | assumption)
                obtain ⟨ad101, A101_2, c101_2, e101, hx101_0, hx101_1, hx101_2, hx101_3, hl101_2, hi101_2⟩ := at_T71 HR0.out x6_1 p101 q101
                cases e101
                replace hx101_0 := (HB.out.cell (World.block_lt_of_cell? w _ hx101_0)).trans hx101_0
                replace hx101_1 := (HB.out.cell (World.block_lt_of_cell? w _ hx101_1)).trans hx101_1
                replace hx101_2 := (HB.out.cell (World.block_lt_of_cell? w _ hx101_2)).trans hx101_2
                replace hx101_3 := (HB.out.cell (World.block_lt_of_cell? w _ hx101_3)).trans hx101_3
                have HR101_2 := Aside0.mk hi101_2
                have HC101_2 := Aside0.mk hl101_2
                clear hi101_2 hl101_2
                replace p101 := eq_true p101
                replace q101 := eq_true q101
                go_upto_if 32 with (first | ((with_reducible refine gate_dst (N := 7) rfl ?_); refine box_event ?hg (N := 7) ?hd (cs := #[.int .i64 0, .int .i64 0, .slice none 0 0, .int .i64 0]) (t := 71) ?hr ?_; (case hd => rfl); (case hg => rfl); (case hr => first | (go_simp; done) | (go_simp; rfl)); intro gb102 hg w9 hbox hb; have n0_ := Aside0.mk (Kd.S_below (Kd.S_elderB (by (with_reducible repeat (first | apply Kd.S_alloc | apply Kd.S_drewN | apply Kd.S_drew)); exact HO_4.out) gb102 (Nat.le_of_eq hg.symm)) hb); have n1_ := Aside0.mk (below_step (by repeat (first | (with_reducible first | exact HB.out | apply below_alloc | apply pw_below_drewN | apply below_drew1) | exact HB.out)) hb); have n2_ := Aside0.mk (hbox); have n3_ := Aside0.mk ((by rw [hg]; exact (below_size (by repeat (first | (with_reducible first | exact HB.out | apply below_alloc | apply pw_below_drewN | apply below_drew1) | exact HB.out))) : w.heap.size ≤ gb102)); have n4_ := Aside0.mk ((by rw [hg]; exact (below_size (by repeat (first | (with_reducible first | exact HB.out | apply below_alloc | apply pw_below_drewN | apply below_drew1) | exact HB.out))) : w.heap.size ≤ gb102)); clear HO_4; clear HB; have HO_4 := n0_; have HB := n1_; have BK102 := n2_; have GW102 := n3_; have GE102 := n4_; clear n0_ n1_ n2_ n3_ n4_; clear hb hbox hg; have hcz10_0 : w9.cell? ⟨gb102, 0, none⟩ = some (.int .i64 0) := (blk_cell BK102.out 0).trans rfl; have hcz10_1 : w9.cell? ⟨gb102, 1, none⟩ = some (.int .i64 0) := (blk_cell BK102.out 1).trans rfl; have hcz10_2 : w9.cell? ⟨gb102, 2, none⟩ = some (.slice none 0 0) := (blk_cell BK102.out 2).trans rfl; have hcz10_3 : w9.cell? ⟨gb102, 3, none⟩ = some (.int .i64 0) := (blk_cell BK102.out 3).trans rfl; have hfz10_0 := blk_frozen BK102.out 0; have hfz10_1 := blk_frozen BK102.out 1; have hfz10_2 := blk_frozen BK102.out 2; have hfz10_3 := blk_frozen BK102.out 3) | ((with_reducible refine gate_callee (f := 41) rfl ?_); refine goesL_ (some 25) rfl rfl Try.func41 (by kernel_rfl) rfl #[.int .i64 ((rd_T71 l0 x6_1).f0), .int .i64 5] rfl (by (try simp only [List.map_toArray, List.map_cons, List.map_nil]); first | done | rfl | (simp only [List.length_drop, List.length_take]; rfl)) ?_; (with_reducible refine (kindlingref01_Among.calls ((rd_T71 l0 x6_1).f0) 5 t103 _ A7.out).mono ?_); rintro e w' ⟨rfl, ⟨nd, rfl⟩⟩; refine ⟨_, rfl, ?_⟩))
                (try simp only [Act.put, List.setIfInBounds_toArray, List.set_cons_zero, List.set_cons_succ])
                go_cut [8] (fun v8 wc => ∃ (kq : Nat) (x8_7 : Int), v8 = .int .i64 x8_7 ∧ Aside0 (kindlingref04_Heap.j2 kq l0 x4_1 x5_1 x6_1 x8_7 (wrap64 (1 + t103)) ((rd_T71 l0 x6_1).f1) ((rd_T71 l0 x6_1).f2) ((rd_T71 l0 x6_1).f3) = some (r1, r2)) ∧ Aside0 (kq ≤ kj1) ∧ Aside0 (Kd.S k71 71 wc w.heap.size (fun k_ => k_ ≠ gb102) u4 x4_1) ∧ Aside0 (wc.heap[gb102]? = some (.cells #[.int .i64 (wrap64 (1 + t103)), .int .i64 ((rd_T71 l0 x6_1).f1), (.slice A101_2 ((rd_T71 l0 x6_1).f2).length c101_2), .int .i64 ((rd_T71 l0 x6_1).f3)] 71 (0, 0))) ∧ Aside0 (Below w.heap.size w wc))
                case first =>
                  have H := HC8.out
                  clear HC8
                  by_cases c11 : (((rd_T71 l0 x6_1).f2).length : Int) > 12
                  · rw [if_pos c11] at H
                    have c11b0 : decide (12 < (((rd_T71 l0 x6_1).f2).length : Int)) = true := decide_eq_true c11
                    have c11b1 : decide (12 < ((rd_T71 l0 x6_1).f2).length) = true := decide_eq_true (by omega)
                    clear c11
                    (first | rw [c11b0] | (simp only [i64_w, i32_w]; rw [c11b0]) | skip)
                    have H' := Aside0.mk H
                    clear H
                    go_wp2
                    go_meet
                    case rel => exact ⟨_, (12), (by first | rfl | (simp; done) | (simp [*]; done)), H', ⟨by have := HK1.out; have := HJ1.out; first | omega | exact Nat.le_refl _⟩, ⟨by (with_reducible repeat (first | apply Kd.S_alloc | apply Kd.S_drewN | apply Kd.S_drew)); exact Kd.S_mono (Kd.S_far (p := ⟨gb102, 0, none⟩) (Kd.S_far (p := ⟨gb102, 3, none⟩) (Kd.S_far (p := ⟨gb102, 2, none⟩) (Kd.S_far (p := ⟨gb102, 1, none⟩) (Kd.S_far (p := ⟨gb102, 0, none⟩) (Kd.S_mono HO_4.out (fun k_ hk => (⟨hk, hk.2⟩ : _ ∧ k_ ≠ gb102))) (fun _ hk => hk.2) (.int .i64 ((rd_T71 l0 x6_1).f0))) (fun _ hk => hk.2) (.int .i64 ((rd_T71 l0 x6_1).f1))) (fun _ hk => hk.2) (.slice A101_2 ((rd_T71 l0 x6_1).f2).length c101_2)) (fun _ hk => hk.2) (.int .i64 ((rd_T71 l0 x6_1).f3))) (fun _ hk => hk.2) (.int .i64 (wrap64 (1 + t103)))) (fun _ hk => hk.1.2)⟩, ⟨by (with_reducible repeat (first | refine blk_drewN ?_ _ | refine blk_drew ?_ | refine blk_alloc ?_ _)); refine blk_put (cs := #[.int .i64 ((rd_T71 l0 x6_1).f0), .int .i64 ((rd_T71 l0 x6_1).f1), .slice A101_2 ((rd_T71 l0 x6_1).f2).length c101_2, .int .i64 ((rd_T71 l0 x6_1).f3)]) ?_ 0 _ rfl; (with_reducible repeat (first | refine blk_drewN ?_ _ | refine blk_drew ?_ | refine blk_alloc ?_ _)); refine blk_put (cs := #[.int .i64 ((rd_T71 l0 x6_1).f0), .int .i64 ((rd_T71 l0 x6_1).f1), .slice A101_2 ((rd_T71 l0 x6_1).f2).length c101_2, .int .i64 0]) ?_ 3 _ rfl; (with_reducible repeat (first | refine blk_drewN ?_ _ | refine blk_drew ?_ | refine blk_alloc ?_ _)); refine blk_put (cs := #[.int .i64 ((rd_T71 l0 x6_1).f0), .int .i64 ((rd_T71 l0 x6_1).f1), .slice none 0 0, .int .i64 0]) ?_ 2 _ rfl; (with_reducible repeat (first | refine blk_drewN ?_ _ | refine blk_drew ?_ | refine blk_alloc ?_ _)); refine blk_put (cs := #[.int .i64 ((rd_T71 l0 x6_1).f0), .int .i64 0, .slice none 0 0, .int .i64 0]) ?_ 1 _ rfl; (with_reducible repeat (first | refine blk_drewN ?_ _ | refine blk_drew ?_ | refine blk_alloc ?_ _)); refine blk_put (cs := #[.int .i64 0, .int .i64 0, .slice none 0 0, .int .i64 0]) ?_ 0 _ rfl; (with_reducible repeat (first | refine blk_drewN ?_ _ | refine blk_drew ?_ | refine blk_alloc ?_ _)); exact BK102.out⟩, ⟨by repeat (first | (with_reducible first | exact HB.out | apply below_alloc | apply pw_below_drewN | apply below_drew1 | refine below_set ?_ GE102.out) | exact HB.out)⟩⟩
                  · rw [if_neg c11] at H
                    have c11b0 : decide (12 < (((rd_T71 l0 x6_1).f2).length : Int)) = false := decide_eq_false c11
                    have c11b1 : decide (12 < ((rd_T71 l0 x6_1).f2).length) = false := decide_eq_false (by omega)
                    clear c11
                    (first | rw [c11b0] | (simp only [i64_w, i32_w]; rw [c11b0]) | skip)
                    have H' := Aside0.mk H
                    clear H
                    go_wp2
                    go_meet
                    case rel => exact ⟨_, ((((rd_T71 l0 x6_1).f2).length : Int)), (by first | rfl | (simp; done) | (simp [*]; done)), H', ⟨by have := HK1.out; have := HJ1.out; first | omega | exact Nat.le_refl _⟩, ⟨by (with_reducible repeat (first | apply Kd.S_alloc | apply Kd.S_drewN | apply Kd.S_drew)); exact Kd.S_mono (Kd.S_far (p := ⟨gb102, 0, none⟩) (Kd.S_far (p := ⟨gb102, 3, none⟩) (Kd.S_far (p := ⟨gb102, 2, none⟩) (Kd.S_far (p := ⟨gb102, 1, none⟩) (Kd.S_far (p := ⟨gb102, 0, none⟩) (Kd.S_mono HO_4.out (fun k_ hk => (⟨hk, hk.2⟩ : _ ∧ k_ ≠ gb102))) (fun _ hk => hk.2) (.int .i64 ((rd_T71 l0 x6_1).f0))) (fun _ hk => hk.2) (.int .i64 ((rd_T71 l0 x6_1).f1))) (fun _ hk => hk.2) (.slice A101_2 ((rd_T71 l0 x6_1).f2).length c101_2)) (fun _ hk => hk.2) (.int .i64 ((rd_T71 l0 x6_1).f3))) (fun _ hk => hk.2) (.int .i64 (wrap64 (1 + t103)))) (fun _ hk => hk.1.2)⟩, ⟨by (with_reducible repeat (first | refine blk_drewN ?_ _ | refine blk_drew ?_ | refine blk_alloc ?_ _)); refine blk_put (cs := #[.int .i64 ((rd_T71 l0 x6_1).f0), .int .i64 ((rd_T71 l0 x6_1).f1), .slice A101_2 ((rd_T71 l0 x6_1).f2).length c101_2, .int .i64 ((rd_T71 l0 x6_1).f3)]) ?_ 0 _ rfl; (with_reducible repeat (first | refine blk_drewN ?_ _ | refine blk_drew ?_ | refine blk_alloc ?_ _)); refine blk_put (cs := #[.int .i64 ((rd_T71 l0 x6_1).f0), .int .i64 ((rd_T71 l0 x6_1).f1), .slice A101_2 ((rd_T71 l0 x6_1).f2).length c101_2, .int .i64 0]) ?_ 3 _ rfl; (with_reducible repeat (first | refine blk_drewN ?_ _ | refine blk_drew ?_ | refine blk_alloc ?_ _)); refine blk_put (cs := #[.int .i64 ((rd_T71 l0 x6_1).f0), .int .i64 ((rd_T71 l0 x6_1).f1), .slice none 0 0, .int .i64 0]) ?_ 2 _ rfl; (with_reducible repeat (first | refine blk_drewN ?_ _ | refine blk_drew ?_ | refine blk_alloc ?_ _)); refine blk_put (cs := #[.int .i64 ((rd_T71 l0 x6_1).f0), .int .i64 0, .slice none 0 0, .int .i64 0]) ?_ 1 _ rfl; (with_reducible repeat (first | refine blk_drewN ?_ _ | refine blk_drew ?_ | refine blk_alloc ?_ _)); refine blk_put (cs := #[.int .i64 0, .int .i64 0, .slice none 0 0, .int .i64 0]) ?_ 0 _ rfl; (with_reducible repeat (first | refine blk_drewN ?_ _ | refine blk_drew ?_ | refine blk_alloc ?_ _)); exact BK102.out⟩, ⟨by repeat (first | (with_reducible first | exact HB.out | apply below_alloc | apply pw_below_drewN | apply below_drew1 | refine below_set ?_ GE102.out) | exact HB.out)⟩⟩
                case rest =>
                  clear HC8
                  try clear c1
                  try clear p1
                  try clear q1
                  try clear hx1
                  try clear p2
                  try clear c3
                  try clear c3b0
                  try clear c4
                  try clear c5
                  try clear c5b0
                  try clear c6
                  try clear c6b0
                  try clear p6
                  try clear c10
                  try clear p10
                  try clear q10
                  try clear hx10
                  try clear c11
                  try clear c11b0
                  try clear c11b1
                  try clear hcz10_0
                  try clear hcz10_1
                  try clear hcz10_2
                  try clear hcz10_3
                  try clear hfz10_0
                  try clear hfz10_1
                  try clear hfz10_2
                  try clear hfz10_3
                  try clear hx101_0
                  try clear hx101_1
                  try clear hx101_2
                  try clear hx101_3
                  try clear p101
                  try clear p2
                  try clear q101
                  obtain ⟨kq, x8_7, rfl, HA, HJ7, HO_4, BK102, HB⟩ := hcut
                  cases kq with
                  | zero => exact absurd HA.out (by simp [kindlingref04_Heap.j2])
                  | succ kj7 =>
                    have H := HA.out
                    clear HA
                    simp only [kindlingref04_Heap.j2] at H
                    have HC12 := Aside0.mk H
                    clear H
                    go_upto_region 11 with (fail)
                    go_cut [39] (fun v39 wc => ∃ (kq : Nat) (x39_11 : Bool), v39 = .bool x39_11 ∧ Aside0 (kindlingref04_Heap.j3 kq l0 x4_1 x5_1 x6_1 x8_7 x39_11 (wrap64 (1 + t103)) ((rd_T71 l0 x6_1).f1) ((rd_T71 l0 x6_1).f2) ((rd_T71 l0 x6_1).f3) = some (r1, r2)) ∧ Aside0 (kq ≤ kj7) ∧ Aside0 (Kd.S k71 71 wc w.heap.size (fun k_ => k_ ≠ gb102) u4 x4_1) ∧ Aside0 (wc.heap[gb102]? = some (.cells #[.int .i64 (wrap64 (1 + t103)), .int .i64 ((rd_T71 l0 x6_1).f1), (.slice A101_2 ((rd_T71 l0 x6_1).f2).length c101_2), .int .i64 ((rd_T71 l0 x6_1).f3)] 71 (0, 0))) ∧ Aside0 (Below w.heap.size w wc))
                    case first =>
                      have H := HC12.out
                      clear HC12
                      by_cases c13 : (wrap64 (1 + t103)) = 2
                      · rw [if_pos c13] at H
                        have c13b0 : ((wrap64 (1 + t103)) == 2) = true := beq_iff_eq.mpr c13
                        have c13b1 : ((wrap64 (1 + t103)) != 2) = false := bne_eq_false_iff_eq.mpr c13
                        clear c13
                        (first | rw [c13b0] | (simp only [i64_w, i32_w]; rw [c13b0]) | skip)
                        have H' := Aside0.mk H
                        clear H
                        have hcz14_0 : wc.cell? ⟨gb102, 0, none⟩ = some (.int .i64 (wrap64 (1 + t103))) := (blk_cell BK102.out 0).trans rfl
                        have hcz14_1 : wc.cell? ⟨gb102, 1, none⟩ = some (.int .i64 ((rd_T71 l0 x6_1).f1)) := (blk_cell BK102.out 1).trans rfl
                        have hcz14_2 : wc.cell? ⟨gb102, 2, none⟩ = some (.slice A101_2 ((rd_T71 l0 x6_1).f2).length c101_2) := (blk_cell BK102.out 2).trans rfl
                        have hcz14_3 : wc.cell? ⟨gb102, 3, none⟩ = some (.int .i64 ((rd_T71 l0 x6_1).f3)) := (blk_cell BK102.out 3).trans rfl
                        have hfz14_0 := blk_frozen BK102.out 0
                        have hfz14_1 := blk_frozen BK102.out 1
                        have hfz14_2 := blk_frozen BK102.out 2
                        have hfz14_3 := blk_frozen BK102.out 3
                        go_wp2
                        go_meet
                        case rel => exact ⟨_, (decide (x8_7 > 1)), (by first | rfl | (simp; done) | (simp [*]; done)), H', ⟨by have := HK1.out; have := HJ1.out; have := HJ7.out; first | omega | exact Nat.le_refl _⟩, ⟨by (with_reducible repeat (first | apply Kd.S_alloc | apply Kd.S_drewN | apply Kd.S_drew)); exact HO_4.out⟩, ⟨by (with_reducible repeat (first | refine blk_drewN ?_ _ | refine blk_drew ?_ | refine blk_alloc ?_ _)); exact BK102.out⟩, ⟨by repeat (first | (with_reducible first | exact HB.out | apply below_alloc | apply pw_below_drewN | apply below_drew1 | refine below_set ?_ GE102.out) | exact HB.out)⟩⟩
                      · rw [if_neg c13] at H
                        have c13b0 : ((wrap64 (1 + t103)) == 2) = false := beq_eq_false_iff_ne.mpr c13
                        have c13b1 : ((wrap64 (1 + t103)) != 2) = true := bne_iff_ne.mpr c13
                        (first | rw [c13b0] | (simp only [i64_w, i32_w]; rw [c13b0]) | skip)
                        have H' := Aside0.mk H
                        clear H
                        have hcz15_0 : wc.cell? ⟨gb102, 0, none⟩ = some (.int .i64 (wrap64 (1 + t103))) := (blk_cell BK102.out 0).trans rfl
                        have hcz15_1 : wc.cell? ⟨gb102, 1, none⟩ = some (.int .i64 ((rd_T71 l0 x6_1).f1)) := (blk_cell BK102.out 1).trans rfl
                        have hcz15_2 : wc.cell? ⟨gb102, 2, none⟩ = some (.slice A101_2 ((rd_T71 l0 x6_1).f2).length c101_2) := (blk_cell BK102.out 2).trans rfl
                        have hcz15_3 : wc.cell? ⟨gb102, 3, none⟩ = some (.int .i64 ((rd_T71 l0 x6_1).f3)) := (blk_cell BK102.out 3).trans rfl
                        have hfz15_0 := blk_frozen BK102.out 0
                        have hfz15_1 := blk_frozen BK102.out 1
                        have hfz15_2 := blk_frozen BK102.out 2
                        have hfz15_3 := blk_frozen BK102.out 3
                        go_wp2
                        go_meet
                        case rel => exact ⟨_, (false), (by first | rfl | (simp; done) | (simp [*]; done)), H', ⟨by have := HK1.out; have := HJ1.out; have := HJ7.out; first | omega | exact Nat.le_refl _⟩, ⟨by (with_reducible repeat (first | apply Kd.S_alloc | apply Kd.S_drewN | apply Kd.S_drew)); exact HO_4.out⟩, ⟨by (with_reducible repeat (first | refine blk_drewN ?_ _ | refine blk_drew ?_ | refine blk_alloc ?_ _)); exact BK102.out⟩, ⟨by repeat (first | (with_reducible first | exact HB.out | apply below_alloc | apply pw_below_drewN | apply below_drew1 | refine below_set ?_ GE102.out) | exact HB.out)⟩⟩
                    case rest =>
                      clear HC12
                      try clear c1
                      try clear p1
                      try clear q1
                      try clear hx1
                      try clear p2
                      try clear c3
                      try clear c3b0
                      try clear c4
                      try clear c5
                      try clear c5b0
                      try clear c6
                      try clear c6b0
                      try clear p6
                      try clear c10
                      try clear p10
                      try clear q10
                      try clear hx10
                      try clear c11
                      try clear c11b0
                      try clear c11b1
                      try clear c13
                      try clear c13b0
                      try clear c13b1
                      try clear c14
                      try clear hcz10_0
                      try clear hcz10_1
                      try clear hcz10_2
                      try clear hcz10_3
                      try clear hcz14_0
                      try clear hcz14_1
                      try clear hcz14_2
                      try clear hcz14_3
                      try clear hcz15_0
                      try clear hcz15_1
                      try clear hcz15_2
                      try clear hcz15_3
                      try clear hfz10_0
                      try clear hfz10_1
                      try clear hfz10_2
                      try clear hfz10_3
                      try clear hfz14_0
                      try clear hfz14_1
                      try clear hfz14_2
                      try clear hfz14_3
                      try clear hfz15_0
                      try clear hfz15_1
                      try clear hfz15_2
                      try clear hfz15_3
                      try clear hx101_0
                      try clear hx101_1
                      try clear hx101_2
                      try clear hx101_3
                      try clear p1
                      try clear p10
                      try clear p101
                      try clear p2
                      try clear p6
                      try clear q1
                      try clear q10
                      try clear q101
                      obtain ⟨kq, x39_11, rfl, HA, HJ11, HO_4, BK102, HB⟩ := hcut
                      cases kq with
                      | zero => exact absurd HA.out (by simp [kindlingref04_Heap.j3])
                      | succ kj11 =>
                        have H := HA.out
                        clear HA
                        simp only [kindlingref04_Heap.j3] at H
                        have HC16 := Aside0.mk H
                        clear H
                        go_upto_if 39 with (fail)
                        go_cut [8] (fun v8 wc => ∃ (kq : Nat) (x8_15 : Int), v8 = .int .i64 x8_15 ∧ Aside0 (kindlingref04_Heap.j4 kq l0 x4_1 x5_1 x6_1 x8_15 (wrap64 (1 + t103)) ((rd_T71 l0 x6_1).f1) ((rd_T71 l0 x6_1).f2) ((rd_T71 l0 x6_1).f3) = some (r1, r2)) ∧ Aside0 (kq ≤ kj11) ∧ Aside0 (Kd.S k71 71 wc w.heap.size (fun k_ => k_ ≠ gb102) u4 x4_1) ∧ Aside0 (wc.heap[gb102]? = some (.cells #[.int .i64 (wrap64 (1 + t103)), .int .i64 ((rd_T71 l0 x6_1).f1), (.slice A101_2 ((rd_T71 l0 x6_1).f2).length c101_2), .int .i64 ((rd_T71 l0 x6_1).f3)] 71 (0, 0))) ∧ Aside0 (Below w.heap.size w wc))
                        case first =>
                          have H := HC16.out
                          clear HC16
                          by_cases c17 : x39_11 = true
                          · subst c17
                            have H1 : (kindlingref04_Heap.j4 kj11 l0 x4_1 x5_1 x6_1 1 (wrap64 (1 + t103)) ((rd_T71 l0 x6_1).f1) ((rd_T71 l0 x6_1).f2) ((rd_T71 l0 x6_1).f3)) = some (r1, r2) := by rw [if_pos rfl] at H; exact H
                            clear H
                            have H := H1
                            clear H1
                            have H' := Aside0.mk H
                            clear H
                            go_wp2
                            go_meet
                            case rel => exact ⟨_, (1), (by first | rfl | (simp; done) | (simp [*]; done)), H', ⟨by have := HK1.out; have := HJ1.out; have := HJ7.out; have := HJ11.out; first | omega | exact Nat.le_refl _⟩, ⟨by (with_reducible repeat (first | apply Kd.S_alloc | apply Kd.S_drewN | apply Kd.S_drew)); exact HO_4.out⟩, ⟨by (with_reducible repeat (first | refine blk_drewN ?_ _ | refine blk_drew ?_ | refine blk_alloc ?_ _)); exact BK102.out⟩, ⟨by repeat (first | (with_reducible first | exact HB.out | apply below_alloc | apply pw_below_drewN | apply below_drew1 | refine below_set ?_ GE102.out) | exact HB.out)⟩⟩
                          · replace c17 := Bool.eq_false_iff.mpr c17
                            subst c17
                            have H1 : (kindlingref04_Heap.j4 kj11 l0 x4_1 x5_1 x6_1 x8_7 (wrap64 (1 + t103)) ((rd_T71 l0 x6_1).f1) ((rd_T71 l0 x6_1).f2) ((rd_T71 l0 x6_1).f3)) = some (r1, r2) := by rw [if_neg (show ¬ (false = true) by decide)] at H; exact H
                            clear H
                            have H := H1
                            clear H1
                            have H' := Aside0.mk H
                            clear H
                            go_wp2
                            go_meet
                            case rel => exact ⟨_, (x8_7), (by first | rfl | (simp; done) | (simp [*]; done)), H', ⟨by have := HK1.out; have := HJ1.out; have := HJ7.out; have := HJ11.out; first | omega | exact Nat.le_refl _⟩, ⟨by (with_reducible repeat (first | apply Kd.S_alloc | apply Kd.S_drewN | apply Kd.S_drew)); exact HO_4.out⟩, ⟨by (with_reducible repeat (first | refine blk_drewN ?_ _ | refine blk_drew ?_ | refine blk_alloc ?_ _)); exact BK102.out⟩, ⟨by repeat (first | (with_reducible first | exact HB.out | apply below_alloc | apply pw_below_drewN | apply below_drew1 | refine below_set ?_ GE102.out) | exact HB.out)⟩⟩
                        case rest =>
                          clear HC16
                          try clear c1
                          try clear p1
                          try clear q1
                          try clear hx1
                          try clear p2
                          try clear c3
                          try clear c3b0
                          try clear c4
                          try clear c5
                          try clear c5b0
                          try clear c6
                          try clear c6b0
                          try clear p6
                          try clear c10
                          try clear p10
                          try clear q10
                          try clear hx10
                          try clear c11
                          try clear c11b0
                          try clear c11b1
                          try clear c13
                          try clear c13b0
                          try clear c13b1
                          try clear c14
                          try clear c17
                          try clear hcz10_0
                          try clear hcz10_1
                          try clear hcz10_2
                          try clear hcz10_3
                          try clear hcz14_0
                          try clear hcz14_1
                          try clear hcz14_2
                          try clear hcz14_3
                          try clear hcz15_0
                          try clear hcz15_1
                          try clear hcz15_2
                          try clear hcz15_3
                          try clear hfz10_0
                          try clear hfz10_1
                          try clear hfz10_2
                          try clear hfz10_3
                          try clear hfz14_0
                          try clear hfz14_1
                          try clear hfz14_2
                          try clear hfz14_3
                          try clear hfz15_0
                          try clear hfz15_1
                          try clear hfz15_2
                          try clear hfz15_3
                          try clear hx101_0
                          try clear hx101_1
                          try clear hx101_2
                          try clear hx101_3
                          try clear p1
                          try clear p10
                          try clear p101
                          try clear p2
                          try clear p6
                          try clear q1
                          try clear q10
                          try clear q101
                          obtain ⟨kq, x8_15, rfl, HA, HJ15, HO_4, BK102, HB⟩ := hcut
                          cases kq with
                          | zero => exact absurd HA.out (by simp [kindlingref04_Heap.j4])
                          | succ kj15 =>
                            have H := HA.out
                            clear HA
                            simp only [kindlingref04_Heap.j4] at H
                            obtain ⟨y104, hy104⟩ : ∃ y_ : List Int, y_ = (([] : List Int)) := ⟨_, rfl⟩
                            replace H : (if 0 ≤ x8_15 then (if x8_15 ≤ (((rd_T71 l0 x6_1).f2).length : Int) then (if y104.length + (((rd_T71 l0 x6_1).f2).take (x8_15 : Int).toNat).length < 17592186044416 then (if x8_15 = 0 then (kindlingref04_Heap.j5 kj15 l0 x4_1 x5_1 x6_1 1 (wrap64 (1 + t103)) ((rd_T71 l0 x6_1).f1) (([(-1)] : List Int)) ((rd_T71 l0 x6_1).f3)) else (kindlingref04_Heap.j5 kj15 l0 x4_1 x5_1 x6_1 x8_15 (wrap64 (1 + t103)) ((rd_T71 l0 x6_1).f1) (y104 ++ (((rd_T71 l0 x6_1).f2).take (x8_15 : Int).toNat)) ((rd_T71 l0 x6_1).f3))) else (none)) else (none)) else (none)) = some (r1, r2) := by first | (rw [hy104]; with_reducible exact H) | (have H2_ := (Option.bind_some _ _).symm.trans H; rw [hy104]; with_reducible exact H2_) | (have H2_ := (Option.bind_some _ _).symm.trans H; with_reducible exact H2_) | with_reducible exact H | (rw [hy104]; exact H) | exact H
                            have Ny104 := Aside0.mk hy104
                            clear hy104
                            by_cases c18 : 0 ≤ x8_15
                            · rw [if_pos c18] at H
                              have c18b0 := eq_true c18
                              have c18b1 : decide (0 ≤ x8_15) = true := decide_eq_true c18
                              clear c18
                              by_cases c19 : x8_15 ≤ (((rd_T71 l0 x6_1).f2).length : Int)
                              · rw [if_pos c19] at H
                                have c19b0 := eq_true c19
                                have c19b1 : decide (x8_15 ≤ (((rd_T71 l0 x6_1).f2).length : Int)) = true := decide_eq_true c19
                                clear c19
                                by_cases c20 : y104.length + (((rd_T71 l0 x6_1).f2).take (x8_15 : Int).toNat).length < 17592186044416
                                · rw [if_pos c20] at H
                                  have LMc20 := Aside0.mk c20
                                  clear c20
                                  obtain ⟨y108, hy108⟩ : ∃ y_ : List Int, y_ = (y104 ++ (((rd_T71 l0 x6_1).f2).take (x8_15 : Int).toNat)) := ⟨_, rfl⟩
                                  replace H : (if x8_15 = 0 then (kindlingref04_Heap.j5 kj15 l0 x4_1 x5_1 x6_1 1 (wrap64 (1 + t103)) ((rd_T71 l0 x6_1).f1) (([(-1)] : List Int)) ((rd_T71 l0 x6_1).f3)) else (kindlingref04_Heap.j5 kj15 l0 x4_1 x5_1 x6_1 x8_15 (wrap64 (1 + t103)) ((rd_T71 l0 x6_1).f1) y108 ((rd_T71 l0 x6_1).f3))) = some (r1, r2) := by first | (rw [hy108]; with_reducible exact H) | (have H2_ := (Option.bind_some _ _).symm.trans H; rw [hy108]; with_reducible exact H2_) | (have H2_ := (Option.bind_some _ _).symm.trans H; with_reducible exact H2_) | with_reducible exact H | (rw [hy108]; exact H) | exact H
                                  have Ny108 := Aside0.mk hy108
                                  clear hy108
                                  have HC21 := Aside0.mk H
                                  clear H
                                  go_upto_if 48 with (first | ((with_reducible refine gate_dst (N := 40) rfl ?_); refine Kd.R_lit (Kd.int .i64) _ 3 ?hg (N := 40) ?hd (xs := ([] : List Int)) (inner := []) (ok := fun _ => True) (okp := fun _ => True) ?hr ?hp (fun _ hk => hk) trivial (Below.refl _ _) (Nat.le_refl _) (by simp) ?_; (case hd => rfl); (case hg => rfl); (case hr => first | (go_simp; done) | (go_simp; rfl)); (case hp => exact (Reps.none _ _)); intro v105 w22 ho23 hb hg_ hnew_; clear hg_ hnew_; (first | rw [← Ny104.out] at ho23 | (simp only [Int.reduceToNat] at ho23; rw [← Ny104.out] at ho23)); have n0_ := Aside0.mk (Kd.S_elder' (by (with_reducible repeat (first | apply Kd.S_alloc | apply Kd.S_drewN | apply Kd.S_drew)); exact HO_4.out) (Kd.R_base ho23) hb); have n1_ := Aside0.mk (Kd.R_lower ho23 (below_size (by repeat (first | (with_reducible first | exact HB.out | apply below_alloc | apply pw_below_drewN | apply below_drew1 | refine below_set ?_ GE102.out) | exact HB.out)))); have n2_ := Aside0.mk (blk_below (g := gb102) (o := .cells #[.int .i64 (wrap64 (1 + t103)), .int .i64 ((rd_T71 l0 x6_1).f1), .slice A101_2 ((rd_T71 l0 x6_1).f2).length c101_2, .int .i64 ((rd_T71 l0 x6_1).f3)] 71 (0, 0)) (by (with_reducible repeat (first | refine blk_drewN ?_ _ | refine blk_drew ?_ | refine blk_alloc ?_ _)); exact BK102.out) hb); have n3_ := Aside0.mk (below_step (by repeat (first | (with_reducible first | exact HB.out | apply below_alloc | apply pw_below_drewN | apply below_drew1 | refine below_set ?_ GE102.out) | exact HB.out)) hb); clear HO_4; clear BK102; clear HB; have HO_4 := n0_; have HO106 := n1_; have BK102 := n2_; have HB := n3_; clear n0_ n1_ n2_ n3_; clear hb ho23; have hcz24_0 : w22.cell? ⟨gb102, 0, none⟩ = some (.int .i64 (wrap64 (1 + t103))) := (blk_cell BK102.out 0).trans rfl; have hcz24_1 : w22.cell? ⟨gb102, 1, none⟩ = some (.int .i64 ((rd_T71 l0 x6_1).f1)) := (blk_cell BK102.out 1).trans rfl; have hcz24_2 : w22.cell? ⟨gb102, 2, none⟩ = some (.slice A101_2 ((rd_T71 l0 x6_1).f2).length c101_2) := (blk_cell BK102.out 2).trans rfl; have hcz24_3 : w22.cell? ⟨gb102, 3, none⟩ = some (.int .i64 ((rd_T71 l0 x6_1).f3)) := (blk_cell BK102.out 3).trans rfl; have hfz24_0 := blk_frozen BK102.out 0; have hfz24_1 := blk_frozen BK102.out 1; have hfz24_2 := blk_frozen BK102.out 2; have hfz24_3 := blk_frozen BK102.out 3; obtain ⟨i025, hi025, _, hsz25, _⟩ := info_parts info3; obtain ⟨hcut25, hA25, hC25⟩ := print_take_of (P := Try.prog) (Value.int .i64) 0 23 3 .i64 Try.underlying23 hi025 hsz25 A101_2 c101_2 ((rd_T71 l0 x6_1).f2) x8_15 (of_decide_eq_true (by first | (with_reducible assumption) | assumption)) (of_decide_eq_true (by first | (with_reducible assumption) | assumption)) HC101_2.out; have HR107 := Aside0.mk (Kd.C_of_reads (h1 := fun _ => rfl) (hA25 _ (Kd.reads_of_C HR101_2.out))); have HC107 := Aside0.mk hC25; clear hA25 hC25 hi025 hsz25) | ((with_reducible refine gate_builtin (b := .append) (xs := #[.tmp 40, .tmp 44]) rfl ?_); at_builtin; refine Kd.R_append_rows (Kd.int .i64) (w0 := w) w.heap.size rfl (.tmp 40) (.tmp 44) 23 3 (.int .i64 0) 8 rfl Try.underlying23 info3 rfl (by decide) (by omega) v105 y104 (((rd_T71 l0 x6_1).f2).take (x8_15 : Int).toNat) _ _ _ (fun _ => True) (fun _ => False) rfl rfl ?aO ?aR (fun _ _ h => h) (fun _ h => h.elim) ?aF ?aB ?aS ?aL ?_; (case aR => first | (have hr_ := (Kd.C_below HR107.out HB.out); rw [show (((rd_T71 l0 x6_1).f2).take (x8_15 : Int).toNat).length = x8_15.toNat from (by rw [List.length_take]; have h_ : (x8_15 : Int) ≤ (((rd_T71 l0 x6_1).f2).length : Int) := of_decide_eq_true (by first | (with_reducible assumption) | assumption); omega)] at hr_; exact hr_) | (rw [← show (((rd_T71 l0 x6_1).f2).take (x8_15 : Int).toNat).length = x8_15.toNat from (by rw [List.length_take]; have h_ : (x8_15 : Int) ≤ (((rd_T71 l0 x6_1).f2).length : Int) := of_decide_eq_true (by first | (with_reducible assumption) | assumption); omega)]; repeat (first | exact (Kd.C_below HR107.out HB.out) | (with_reducible refine Kd.C_alloc ?_ _) | (with_reducible refine Kd.C_drewN ?_ _) | (with_reducible refine Kd.C_drew ?_))) | (repeat (first | exact (Kd.C_below HR107.out HB.out) | (with_reducible refine Kd.C_alloc ?_ _) | (with_reducible refine Kd.C_drewN ?_ _) | (with_reducible refine Kd.C_drew ?_)))); (case aB => exact (by repeat (first | (with_reducible first | exact HB.out | apply below_alloc | apply pw_below_drewN | apply below_drew1 | refine below_set ?_ GE102.out) | exact HB.out))); (case aF => exact (fun _ _ => trivial)); (case aO => exact (by (with_reducible repeat (first | apply Kd.R_alloc | apply Kd.R_drewN | apply Kd.R_drew)); exact HO106.out)); (case aS => exact (below_size (by repeat (first | (with_reducible first | exact HB.out | apply below_alloc | apply pw_below_drewN | apply below_drew1 | refine below_set ?_ GE102.out) | exact HB.out)))); (case aL => have := LMc20.out; have hlx_ := (show (((rd_T71 l0 x6_1).f2).take (x8_15 : Int).toNat).length = x8_15.toNat from (by rw [List.length_take]; have h_ : (x8_15 : Int) ≤ (((rd_T71 l0 x6_1).f2).length : Int) := of_decide_eq_true (by first | (with_reducible assumption) | assumption); omega)); omega); intro v109 w26 ho hb hg hat; rw [← Ny108.out] at ho; have n0_ := Aside0.mk (Kd.S_after (ok := (fun k_ => k_ ≠ gb102)) (by (with_reducible repeat (first | apply Kd.S_alloc | apply Kd.S_drewN | apply Kd.S_drew)); exact HO_4.out) hg hat); have n1_ := Aside0.mk (blk_grown (g := gb102) (o := .cells #[.int .i64 (wrap64 (1 + t103)), .int .i64 ((rd_T71 l0 x6_1).f1), .slice A101_2 ((rd_T71 l0 x6_1).f2).length c101_2, .int .i64 ((rd_T71 l0 x6_1).f3)] 71 (0, 0)) (by (with_reducible repeat (first | refine blk_drewN ?_ _ | refine blk_drew ?_ | refine blk_alloc ?_ _)); exact BK102.out) hg (Kd.R_ne HO106.out BK102.out (by decide))); have n2_ := Aside0.mk (hb); have n3_ := Aside0.mk (ho); clear HO_4; clear BK102; clear HB; clear HO106; have HO_4 := n0_; have BK102 := n1_; have HB := n2_; have HO110 := n3_; clear n0_ n1_ n2_ n3_; clear ho hb hg hat; obtain ⟨Ao27, co27, eo27⟩ := Kd.R_slice HO110.out; subst eo27; have hcz28_0 : w26.cell? ⟨gb102, 0, none⟩ = some (.int .i64 (wrap64 (1 + t103))) := (blk_cell BK102.out 0).trans rfl; have hcz28_1 : w26.cell? ⟨gb102, 1, none⟩ = some (.int .i64 ((rd_T71 l0 x6_1).f1)) := (blk_cell BK102.out 1).trans rfl; have hcz28_2 : w26.cell? ⟨gb102, 2, none⟩ = some (.slice A101_2 ((rd_T71 l0 x6_1).f2).length c101_2) := (blk_cell BK102.out 2).trans rfl; have hcz28_3 : w26.cell? ⟨gb102, 3, none⟩ = some (.int .i64 ((rd_T71 l0 x6_1).f3)) := (blk_cell BK102.out 3).trans rfl; have hfz28_0 := blk_frozen BK102.out 0; have hfz28_1 := blk_frozen BK102.out 1; have hfz28_2 := blk_frozen BK102.out 2; have hfz28_3 := blk_frozen BK102.out 3))
                                  (try simp only [Act.put, List.setIfInBounds_toArray, List.set_cons_zero, List.set_cons_succ])
                                  go_cut [8] (fun v8 wc => ∃ (kq : Nat) (x8_20 : Int) (x103002_20 : List Int) (u103002 : Value), v8 = .int .i64 x8_20 ∧ Aside0 (kindlingref04_Heap.j5 kq l0 x4_1 x5_1 x6_1 x8_20 (wrap64 (1 + t103)) ((rd_T71 l0 x6_1).f1) x103002_20 ((rd_T71 l0 x6_1).f3) = some (r1, r2)) ∧ Aside0 (kq ≤ kj15) ∧ Aside0 (Kd.S k71 71 wc w.heap.size (fun k_ => some k_ ≠ (u103002 : Value).ownBlock ∧ k_ ≠ gb102) u4 x4_1) ∧ Aside0 (Kd.R (Kd.int .i64) 3 wc w.heap.size (fun _ => True) u103002 x103002_20) ∧ Aside0 (wc.heap[gb102]? = some (.cells #[.int .i64 (wrap64 (1 + t103)), .int .i64 ((rd_T71 l0 x6_1).f1), u103002, .int .i64 ((rd_T71 l0 x6_1).f3)] 71 (0, 0))) ∧ Aside0 (Below w.heap.size w wc))
                                  case first =>
                                    have H := HC21.out
                                    clear HC21
                                    by_cases c29 : x8_15 = 0
                                    · rw [if_pos c29] at H
                                      have c29b0 : (x8_15 == 0) = true := beq_iff_eq.mpr c29
                                      have c29b1 : (x8_15 != 0) = false := bne_eq_false_iff_eq.mpr c29
                                      clear c29
                                      (first | rw [c29b0] | (simp only [i64_w, i32_w]; rw [c29b0]) | skip)
                                      obtain ⟨y111, hy111⟩ : ∃ y_ : List Int, y_ = (([(-1)] : List Int)) := ⟨_, rfl⟩
                                      replace H : (kindlingref04_Heap.j5 kj15 l0 x4_1 x5_1 x6_1 1 (wrap64 (1 + t103)) ((rd_T71 l0 x6_1).f1) y111 ((rd_T71 l0 x6_1).f3)) = some (r1, r2) := by first | (rw [hy111]; with_reducible exact H) | (have H2_ := (Option.bind_some _ _).symm.trans H; rw [hy111]; with_reducible exact H2_) | (have H2_ := (Option.bind_some _ _).symm.trans H; with_reducible exact H2_) | with_reducible exact H | (rw [hy111]; exact H) | exact H
                                      have Ny111 := Aside0.mk hy111
                                      clear hy111
                                      have H' := Aside0.mk H
                                      clear H
                                      go_wp2_with (first | ((with_reducible refine gate_dst (N := 49) rfl ?_); refine Kd.R_lit (Kd.int .i64) _ 3 ?hg (N := 49) ?hd (xs := ([(-1)] : List Int)) (inner := [.int .i64 (-1)]) (ok := fun _ => True) (okp := fun _ => True) ?hr ?hp (fun _ hk => hk) trivial (Below.refl _ _) (Nat.le_refl _) (by simp) ?_; (case hd => rfl); (case hg => rfl); (case hr => first | (go_simp; done) | (go_simp; rfl)); (case hp => exact (Reps.one (show Kd.M (Kd.int .i64) _ _ _ (-1) [.int .i64 (-1)] from rfl) (Reps.none _ _))); intro v112 w30 ho31 hb hg_ hnew_; clear hg_ hnew_; (first | rw [← Ny111.out] at ho31 | (simp only [Int.reduceToNat] at ho31; rw [← Ny111.out] at ho31)); have n0_ := Aside0.mk (Kd.S_elder' (by (with_reducible repeat (first | apply Kd.S_alloc | apply Kd.S_drewN | apply Kd.S_drew)); exact (Kd.S_mono (Kd.S_far (p := ⟨gb102, 2, none⟩) (Kd.S_mono HO_4.out (fun k_ hk => (⟨hk, hk.1⟩ : _ ∧ k_ ≠ gb102))) (fun _ hk => hk.2) (.slice Ao27 y108.length co27)) (fun _ h_ => h_.1))) (Kd.R_base ho31) hb); have n1_ := Aside0.mk (Kd.R_elder' (by (with_reducible repeat (first | apply Kd.R_alloc | apply Kd.R_drewN | apply Kd.R_drew)); exact (Kd.R_mono (Kd.R_far (p := ⟨gb102, 2, none⟩) (Kd.R_types HO110.out BK102.out (by decide)) (fun _ hk => hk.2) (.slice Ao27 y108.length co27)) (fun _ h_ => h_.1))) (Kd.R_base ho31) hb); have n2_ := Aside0.mk (Kd.R_lower (Kd.R_new' ho31 (Kd.R_lt (by (with_reducible repeat (first | apply Kd.R_alloc | apply Kd.R_drewN | apply Kd.R_drew)); exact (Kd.R_mono (Kd.R_far (p := ⟨gb102, 2, none⟩) (Kd.R_types HO110.out BK102.out (by decide)) (fun _ hk => hk.2) (.slice Ao27 y108.length co27)) (fun _ h_ => h_.1))))) (below_size (by repeat (first | (with_reducible first | exact HB.out | apply below_alloc | apply pw_below_drewN | apply below_drew1 | refine below_set ?_ GE102.out) | exact HB.out)))); have n3_ := Aside0.mk (blk_below (g := gb102) (o := .cells #[.int .i64 (wrap64 (1 + t103)), .int .i64 ((rd_T71 l0 x6_1).f1), .slice Ao27 y108.length co27, .int .i64 ((rd_T71 l0 x6_1).f3)] 71 (0, 0)) (by (with_reducible repeat (first | refine blk_drewN ?_ _ | refine blk_drew ?_ | refine blk_alloc ?_ _)); refine blk_put (cs := #[.int .i64 (wrap64 (1 + t103)), .int .i64 ((rd_T71 l0 x6_1).f1), .slice A101_2 ((rd_T71 l0 x6_1).f2).length c101_2, .int .i64 ((rd_T71 l0 x6_1).f3)]) ?_ 2 _ rfl; (with_reducible repeat (first | refine blk_drewN ?_ _ | refine blk_drew ?_ | refine blk_alloc ?_ _)); exact BK102.out) hb); have n4_ := Aside0.mk (below_step (by repeat (first | (with_reducible first | exact HB.out | apply below_alloc | apply pw_below_drewN | apply below_drew1 | refine below_set ?_ GE102.out) | exact HB.out)) hb); clear HO_4; clear HO110; clear BK102; clear HB; have HO_4 := n0_; have HO110 := n1_; have HO113 := n2_; have BK102 := n3_; have HB := n4_; clear n0_ n1_ n2_ n3_ n4_; clear hb ho31; obtain ⟨Ao32, co32, eo32⟩ := Kd.R_slice HO113.out; subst eo32; have hcz33_0 : w30.cell? ⟨gb102, 0, none⟩ = some (.int .i64 (wrap64 (1 + t103))) := (blk_cell BK102.out 0).trans rfl; have hcz33_1 : w30.cell? ⟨gb102, 1, none⟩ = some (.int .i64 ((rd_T71 l0 x6_1).f1)) := (blk_cell BK102.out 1).trans rfl; have hcz33_2 : w30.cell? ⟨gb102, 2, none⟩ = some (.slice Ao27 y108.length co27) := (blk_cell BK102.out 2).trans rfl; have hcz33_3 : w30.cell? ⟨gb102, 3, none⟩ = some (.int .i64 ((rd_T71 l0 x6_1).f3)) := (blk_cell BK102.out 3).trans rfl; have hfz33_0 := blk_frozen BK102.out 0; have hfz33_1 := blk_frozen BK102.out 1; have hfz33_2 := blk_frozen BK102.out 2; have hfz33_3 := blk_frozen BK102.out 3))
                                      go_meet
                                      case rel => exact ⟨_, (1), (y111), (.slice Ao32 y111.length co32), (by first | rfl | (simp; done) | (simp [*]; done)), H', ⟨by have := HK1.out; have := HJ1.out; have := HJ7.out; have := HJ11.out; have := HJ15.out; first | omega | exact Nat.le_refl _⟩, ⟨by (with_reducible repeat (first | apply Kd.S_alloc | apply Kd.S_drewN | apply Kd.S_drew)); exact Kd.S_mono (Kd.S_far (p := ⟨gb102, 2, none⟩) (Kd.S_mono HO_4.out (fun k_ hk => (⟨hk, hk.1.1⟩ : _ ∧ k_ ≠ gb102))) (fun _ hk => hk.2) (.slice Ao32 y111.length co32)) (fun _ hk => ⟨hk.1.2, hk.1.1.1⟩)⟩, ⟨by (with_reducible repeat (first | apply Kd.R_alloc | apply Kd.R_drewN | apply Kd.R_drew)); exact Kd.R_mono (Kd.R_far (p := ⟨gb102, 2, none⟩) (Kd.R_types HO113.out BK102.out (by decide)) (fun _ hk => hk.2) (.slice Ao32 y111.length co32)) (fun _ hk => trivial)⟩, ⟨by (with_reducible repeat (first | refine blk_drewN ?_ _ | refine blk_drew ?_ | refine blk_alloc ?_ _)); refine blk_put (cs := #[.int .i64 (wrap64 (1 + t103)), .int .i64 ((rd_T71 l0 x6_1).f1), .slice Ao27 y108.length co27, .int .i64 ((rd_T71 l0 x6_1).f3)]) ?_ 2 _ rfl; (with_reducible repeat (first | refine blk_drewN ?_ _ | refine blk_drew ?_ | refine blk_alloc ?_ _)); exact BK102.out⟩, ⟨by repeat (first | (with_reducible first | exact HB.out | apply below_alloc | apply pw_below_drewN | apply below_drew1 | refine below_set ?_ GE102.out) | exact HB.out)⟩⟩
                                    · rw [if_neg c29] at H
                                      have c29b0 : (x8_15 == 0) = false := beq_eq_false_iff_ne.mpr c29
                                      have c29b1 : (x8_15 != 0) = true := bne_iff_ne.mpr c29
                                      (first | rw [c29b0] | (simp only [i64_w, i32_w]; rw [c29b0]) | skip)
                                      have H' := Aside0.mk H
                                      clear H
                                      go_wp2
                                      go_meet
                                      case rel => exact ⟨_, (x8_15), (y108), (.slice Ao27 y108.length co27), (by first | rfl | (simp; done) | (simp [*]; done)), H', ⟨by have := HK1.out; have := HJ1.out; have := HJ7.out; have := HJ11.out; have := HJ15.out; first | omega | exact Nat.le_refl _⟩, ⟨by (with_reducible repeat (first | apply Kd.S_alloc | apply Kd.S_drewN | apply Kd.S_drew)); exact Kd.S_mono (Kd.S_far (p := ⟨gb102, 2, none⟩) (Kd.S_mono HO_4.out (fun k_ hk => (⟨hk, hk.1⟩ : _ ∧ k_ ≠ gb102))) (fun _ hk => hk.2) (.slice Ao27 y108.length co27)) (fun _ hk => ⟨hk.1.2, hk.1.1⟩)⟩, ⟨by (with_reducible repeat (first | apply Kd.R_alloc | apply Kd.R_drewN | apply Kd.R_drew)); exact Kd.R_mono (Kd.R_far (p := ⟨gb102, 2, none⟩) (Kd.R_types HO110.out BK102.out (by decide)) (fun _ hk => hk.2) (.slice Ao27 y108.length co27)) (fun _ hk => trivial)⟩, ⟨by (with_reducible repeat (first | refine blk_drewN ?_ _ | refine blk_drew ?_ | refine blk_alloc ?_ _)); refine blk_put (cs := #[.int .i64 (wrap64 (1 + t103)), .int .i64 ((rd_T71 l0 x6_1).f1), .slice A101_2 ((rd_T71 l0 x6_1).f2).length c101_2, .int .i64 ((rd_T71 l0 x6_1).f3)]) ?_ 2 _ rfl; (with_reducible repeat (first | refine blk_drewN ?_ _ | refine blk_drew ?_ | refine blk_alloc ?_ _)); exact BK102.out⟩, ⟨by repeat (first | (with_reducible first | exact HB.out | apply below_alloc | apply pw_below_drewN | apply below_drew1 | refine below_set ?_ GE102.out) | exact HB.out)⟩⟩
                                  case rest =>
                                    clear HC21
                                    try clear c1
                                    try clear p1
                                    try clear q1
                                    try clear hx1
                                    try clear c2
                                    try clear p2
                                    try clear c3
                                    try clear c3b0
                                    try clear c4
                                    try clear c5
                                    try clear c5b0
                                    try clear c6
                                    try clear c6b0
                                    try clear p6
                                    try clear c10
                                    try clear p10
                                    try clear q10
                                    try clear hx10
                                    try clear c11
                                    try clear c11b0
                                    try clear c11b1
                                    try clear c13
                                    try clear c13b0
                                    try clear c13b1
                                    try clear c14
                                    try clear c17
                                    try clear c18
                                    try clear c18b0
                                    try clear c18b1
                                    try clear c19
                                    try clear c19b0
                                    try clear c19b1
                                    try clear c20
                                    try clear c29
                                    try clear c29b0
                                    try clear c29b1
                                    try clear hcz10_0
                                    try clear hcz10_1
                                    try clear hcz10_2
                                    try clear hcz10_3
                                    try clear hcz14_0
                                    try clear hcz14_1
                                    try clear hcz14_2
                                    try clear hcz14_3
                                    try clear hcz15_0
                                    try clear hcz15_1
                                    try clear hcz15_2
                                    try clear hcz15_3
                                    try clear hcz24_0
                                    try clear hcz24_1
                                    try clear hcz24_2
                                    try clear hcz24_3
                                    try clear hcz28_0
                                    try clear hcz28_1
                                    try clear hcz28_2
                                    try clear hcz28_3
                                    try clear hcz33_0
                                    try clear hcz33_1
                                    try clear hcz33_2
                                    try clear hcz33_3
                                    try clear hfz10_0
                                    try clear hfz10_1
                                    try clear hfz10_2
                                    try clear hfz10_3
                                    try clear hfz14_0
                                    try clear hfz14_1
                                    try clear hfz14_2
                                    try clear hfz14_3
                                    try clear hfz15_0
                                    try clear hfz15_1
                                    try clear hfz15_2
                                    try clear hfz15_3
                                    try clear hfz24_0
                                    try clear hfz24_1
                                    try clear hfz24_2
                                    try clear hfz24_3
                                    try clear hfz28_0
                                    try clear hfz28_1
                                    try clear hfz28_2
                                    try clear hfz28_3
                                    try clear hfz33_0
                                    try clear hfz33_1
                                    try clear hfz33_2
                                    try clear hfz33_3
                                    try clear hx101_0
                                    try clear hx101_1
                                    try clear hx101_2
                                    try clear hx101_3
                                    try clear p1
                                    try clear p10
                                    try clear p101
                                    try clear p2
                                    try clear p6
                                    try clear q1
                                    try clear q10
                                    try clear q101
                                    obtain ⟨kq, x8_20, x103002_20, u103002, rfl, HA, HJ20, HO_4, HO_103002, BK102, HB⟩ := hcut
                                    cases kq with
                                    | zero => exact absurd HA.out (by simp [kindlingref04_Heap.j5])
                                    | succ kj20 =>
                                      have H := HA.out
                                      clear HA
                                      simp only [kindlingref04_Heap.j5] at H
                                      by_cases c34 : (wrap64 (1 + t103)) = 4
                                      · rw [if_pos c34] at H
                                        have c34b0 : ((wrap64 (1 + t103)) == 4) = true := beq_iff_eq.mpr c34
                                        have c34b1 : ((wrap64 (1 + t103)) != 4) = false := bne_eq_false_iff_eq.mpr c34
                                        clear c34
                                        by_cases c35 : x4_1.length < 2932031007402
                                        · rw [if_pos c35] at H
                                          have LMc35 := Aside0.mk c35
                                          clear c35
                                          obtain ⟨y114, hy114⟩ : ∃ y_ : List (S71), y_ = (x4_1 ++ [(⟨(wrap64 (1 + t103)), 0, x103002_20, ((rd_T71 l0 x6_1).f3)⟩ : S71)]) := ⟨_, rfl⟩
                                          replace H : (kindlingref04_Heap.l0 kj20 l0 y114 (wrap64 ((wrap64 (x5_1 + 1)) + x8_20)) (wrap64 (x6_1 + 1))) = some (r1, r2) := by first | (rw [hy114]; with_reducible exact H) | (have H2_ := (Option.bind_some _ _).symm.trans H; rw [hy114]; with_reducible exact H2_) | (have H2_ := (Option.bind_some _ _).symm.trans H; with_reducible exact H2_) | with_reducible exact H | (rw [hy114]; exact H) | exact H
                                          have Ny114 := Aside0.mk hy114
                                          clear hy114
                                          have H' := Aside0.mk H
                                          clear H
                                          have hcz36_0 : wc.cell? ⟨gb102, 0, none⟩ = some (.int .i64 (wrap64 (1 + t103))) := (blk_cell BK102.out 0).trans rfl
                                          have hcz36_1 : wc.cell? ⟨gb102, 1, none⟩ = some (.int .i64 ((rd_T71 l0 x6_1).f1)) := (blk_cell BK102.out 1).trans rfl
                                          have hcz36_2 : wc.cell? ⟨gb102, 2, none⟩ = some (u103002) := (blk_cell BK102.out 2).trans rfl
                                          have hcz36_3 : wc.cell? ⟨gb102, 3, none⟩ = some (.int .i64 ((rd_T71 l0 x6_1).f3)) := (blk_cell BK102.out 3).trans rfl
                                          have hfz36_0 := blk_frozen BK102.out 0
                                          have hfz36_1 := blk_frozen BK102.out 1
                                          have hfz36_2 := blk_frozen BK102.out 2
                                          have hfz36_3 := blk_frozen BK102.out 3
                                          go_wp2_with (first | ((with_reducible refine gate_store (t := 3) (p := 57) rfl ?_); refine store_event (t := 3) (p := 57) (v := ?vo_w37) (w1 := (wc.setCell ⟨gb102, 1, none⟩ (.int .i64 0))) ?hg ?ho ?hn ?hr ?_; (case ho => rfl); (case hg => rfl); (case hn => rfl); (case hr => first | (go_simp; done) | (go_simp; rfl)); intro w37 hw; have n0_ : Aside0 (Kd.S k71 71 w37 w.heap.size (fun k_ => some k_ ≠ (u103002 : Value).ownBlock ∧ k_ ≠ gb102) u4 x4_1) := ⟨(by rw [hw]; exact (by (with_reducible repeat (first | apply Kd.S_alloc | apply Kd.S_drewN | apply Kd.S_drew)); exact Kd.S_mono (Kd.S_far (p := ⟨gb102, 1, none⟩) (Kd.S_mono HO_4.out (fun k_ hk => (⟨hk, hk.2⟩ : _ ∧ k_ ≠ gb102))) (fun _ hk => hk.2) (.int .i64 0)) (fun _ hk => ⟨hk.1.1, hk.1.2⟩)))⟩; have n1_ : Aside0 (Kd.R (Kd.int .i64) 3 w37 w.heap.size (fun _ => True) u103002 x103002_20) := ⟨(by rw [hw]; exact (by (with_reducible repeat (first | apply Kd.R_alloc | apply Kd.R_drewN | apply Kd.R_drew)); exact Kd.R_mono (Kd.R_far (p := ⟨gb102, 1, none⟩) (Kd.R_types HO_103002.out BK102.out (by decide)) (fun _ hk => hk.2) (.int .i64 0)) (fun _ hk => trivial)))⟩; have n2_ : Aside0 (w37.heap[gb102]? = some (.cells #[.int .i64 (wrap64 (1 + t103)), .int .i64 0, u103002, .int .i64 ((rd_T71 l0 x6_1).f3)] 71 (0, 0))) := ⟨(by rw [hw]; exact (by (with_reducible repeat (first | refine blk_drewN ?_ _ | refine blk_drew ?_ | refine blk_alloc ?_ _)); refine blk_put (cs := #[.int .i64 (wrap64 (1 + t103)), .int .i64 ((rd_T71 l0 x6_1).f1), u103002, .int .i64 ((rd_T71 l0 x6_1).f3)]) ?_ 1 _ rfl; (with_reducible repeat (first | refine blk_drewN ?_ _ | refine blk_drew ?_ | refine blk_alloc ?_ _)); exact BK102.out))⟩; have n3_ : Aside0 (Below w.heap.size w w37) := ⟨(by rw [hw]; exact (by repeat (first | (with_reducible first | exact HB.out | apply below_alloc | apply pw_below_drewN | apply below_drew1 | refine below_set ?_ GE102.out) | exact HB.out)))⟩; clear hw; clear HO_4; clear HO_103002; clear BK102; clear HB; have HO_4 := n0_; have HO_103002 := n1_; have BK102 := n2_; have HB := n3_; clear n0_ n1_ n2_ n3_; have hcz38_0 : w37.cell? ⟨gb102, 0, none⟩ = some (.int .i64 (wrap64 (1 + t103))) := (blk_cell BK102.out 0).trans rfl; have hcz38_1 : w37.cell? ⟨gb102, 1, none⟩ = some (.int .i64 0) := (blk_cell BK102.out 1).trans rfl; have hcz38_2 : w37.cell? ⟨gb102, 2, none⟩ = some (u103002) := (blk_cell BK102.out 2).trans rfl; have hcz38_3 : w37.cell? ⟨gb102, 3, none⟩ = some (.int .i64 ((rd_T71 l0 x6_1).f3)) := (blk_cell BK102.out 3).trans rfl; have hfz38_0 := blk_frozen BK102.out 0; have hfz38_1 := blk_frozen BK102.out 1; have hfz38_2 := blk_frozen BK102.out 2; have hfz38_3 := blk_frozen BK102.out 3; obtain ⟨Ao40, co40, eo40⟩ := Kd.R_slice HO_103002.out; subst eo40) | ((with_reducible refine gate_builtin (b := .append) (xs := #[.tmp 70, .tmp 72]) rfl ?_); at_builtin; refine Kd.S_append k71 (w0 := w) w.heap.size rfl (.tmp 70) (.tmp 72) 22 71 (.agg #[(.int .i64 0), (.int .i64 0), (.slice none 0 0), (.int .i64 0)]) 48 rfl Try.underlying22 info71 rfl (by decide) (by omega) u4 x4_1 (⟨(wrap64 (1 + t103)), 0, x103002_20, ((rd_T71 l0 x6_1).f3)⟩ : S71) [.int .i64 (wrap64 (1 + t103)), .int .i64 0, .slice Ao40 x103002_20.length co40, .int .i64 ((rd_T71 l0 x6_1).f3)] (fun k_ => k_ ≠ gb102) (fun k_ => some k_ = (.slice Ao40 x103002_20.length co40 : Value).ownBlock) rfl rfl ?aP (fun k_ hk_ => ((Kd.R_mono (ok' := fun k_ => ((fun k_ => k_ ≠ gb102)) k_ ∧ some k_ ≠ (u4 : Value).ownBlock) (Kd.R_types (Kd.R_apart' (HO_103002.out) (Kd.S_typed HO_4.out) (by decide)) BK102.out (by decide)) (fun k_ hk => ⟨hk.2, hk.1.2⟩))).1 k_ hk_.symm) ?aF ?aO ?aB ?aS ?aL ?_; (case aP => exact k71_mkM _ _ _ (⟨(wrap64 (1 + t103)), 0, x103002_20, ((rd_T71 l0 x6_1).f3)⟩ : S71) (Kd.R_mono (Kd.R_tight rfl (Kd.R_mono (ok' := fun k_ => ((fun k_ => k_ ≠ gb102)) k_ ∧ some k_ ≠ (u4 : Value).ownBlock) (Kd.R_types (Kd.R_apart' (HO_103002.out) (Kd.S_typed HO_4.out) (by decide)) BK102.out (by decide)) (fun k_ hk => ⟨hk.2, hk.1.2⟩))) (fun _ h_ => h_))); (case aB => exact (by repeat (first | (with_reducible first | exact HB.out | apply below_alloc | apply pw_below_drewN | apply below_drew1 | refine below_set ?_ GE102.out) | exact HB.out))); (case aF => exact (fun k_ hk => Kd.freshB (g := gb102) (o := .cells #[.int .i64 (wrap64 (1 + t103)), .int .i64 0, .slice Ao40 x103002_20.length co40, .int .i64 ((rd_T71 l0 x6_1).f3)] 71 (0, 0)) (by (with_reducible repeat (first | refine blk_drewN ?_ _ | refine blk_drew ?_ | refine blk_alloc ?_ _)); exact BK102.out) k_ hk)); (case aO => exact (by (with_reducible repeat (first | apply Kd.S_alloc | apply Kd.S_drewN | apply Kd.S_drew)); exact Kd.S_mono HO_4.out (fun k_ hk => ⟨hk.2, fun e_ => hk.1 e_⟩))); (case aS => exact (below_size (by repeat (first | (with_reducible first | exact HB.out | apply below_alloc | apply pw_below_drewN | apply below_drew1 | refine below_set ?_ GE102.out) | exact HB.out)))); (case aL => have := LMc35.out; omega); intro v115 w39 ho hb hg hat; rw [← Ny114.out] at ho; have n0_ := Aside0.mk (blk_grown (g := gb102) (o := .cells #[.int .i64 (wrap64 (1 + t103)), .int .i64 0, .slice Ao40 x103002_20.length co40, .int .i64 ((rd_T71 l0 x6_1).f3)] 71 (0, 0)) (by (with_reducible repeat (first | refine blk_drewN ?_ _ | refine blk_drew ?_ | refine blk_alloc ?_ _)); exact BK102.out) hg (Kd.S_away HO_4.out (fun _ hk => hk.2))); have n1_ := Aside0.mk (hb); have n2_ := Aside0.mk (ho); clear BK102; clear HB; clear HO_4; clear HO_103002; have BK102 := n0_; have HB := n1_; have HO116 := n2_; clear n0_ n1_ n2_; clear ho hb hg hat))
                                          go_roundg kj20
                                          case measure => have := HK1.out; have := HJ1.out; have := HJ7.out; have := HJ11.out; have := HJ15.out; have := HJ20.out; omega
                                          case rel => exact ⟨(y114), (wrap64 ((wrap64 (x5_1 + 1)) + x8_20)), (wrap64 (x6_1 + 1)), (by first | rfl | (simp; done) | (simp [*]; done)), (by first | rfl | (simp; done) | (simp [*]; done)), H', ⟨by have := HK1.out; have := HJ1.out; have := HJ7.out; have := HJ11.out; have := HJ15.out; have := HJ20.out; omega⟩, ⟨by (with_reducible repeat (first | apply Kd.S_alloc | apply Kd.S_drewN | apply Kd.S_drew)); exact Kd.S_mono HO116.out (fun _ hk => trivial)⟩, ⟨by repeat (first | (with_reducible first | exact HB.out | apply below_alloc | apply pw_below_drewN | apply below_drew1 | refine below_set ?_ GE102.out) | exact HB.out)⟩⟩
                                        · rw [if_neg c35] at H
                                          exact absurd H (by simp)
                                      · rw [if_neg c34] at H
                                        have c34b0 : ((wrap64 (1 + t103)) == 4) = false := beq_eq_false_iff_ne.mpr c34
                                        have c34b1 : ((wrap64 (1 + t103)) != 4) = true := bne_iff_ne.mpr c34
                                        by_cases c41 : (wrap64 (1 + t103)) = 5
                                        · rw [if_pos c41] at H
                                          have c41b0 : ((wrap64 (1 + t103)) == 5) = true := beq_iff_eq.mpr c41
                                          have c41b1 : ((wrap64 (1 + t103)) != 5) = false := bne_eq_false_iff_eq.mpr c41
                                          clear c41
                                          replace H := Option.bind_eq_some_iff.mp H
                                          obtain ⟨t117, A420, H⟩ := H
                                          replace H : (if x4_1.length < 2932031007402 then (kindlingref04_Heap.l0 kj20 l0 (x4_1 ++ [(⟨(wrap64 (1 + t103)), t117, x103002_20, ((rd_T71 l0 x6_1).f3)⟩ : S71)]) (wrap64 ((wrap64 (x5_1 + 1)) + x8_20)) (wrap64 (x6_1 + 1))) else (none)) = some (r1, r2) := H
                                          have A42 := Aside0.mk A420
                                          clear A420
                                          by_cases c43 : x4_1.length < 2932031007402
                                          · rw [if_pos c43] at H
                                            have LMc43 := Aside0.mk c43
                                            clear c43
                                            obtain ⟨y118, hy118⟩ : ∃ y_ : List (S71), y_ = (x4_1 ++ [(⟨(wrap64 (1 + t103)), t117, x103002_20, ((rd_T71 l0 x6_1).f3)⟩ : S71)]) := ⟨_, rfl⟩
                                            replace H : (kindlingref04_Heap.l0 kj20 l0 y118 (wrap64 ((wrap64 (x5_1 + 1)) + x8_20)) (wrap64 (x6_1 + 1))) = some (r1, r2) := by first | (rw [hy118]; with_reducible exact H) | (have H2_ := (Option.bind_some _ _).symm.trans H; rw [hy118]; with_reducible exact H2_) | (have H2_ := (Option.bind_some _ _).symm.trans H; with_reducible exact H2_) | with_reducible exact H | (rw [hy118]; exact H) | exact H
                                            have Ny118 := Aside0.mk hy118
                                            clear hy118
                                            have H' := Aside0.mk H
                                            clear H
                                            have hcz44_0 : wc.cell? ⟨gb102, 0, none⟩ = some (.int .i64 (wrap64 (1 + t103))) := (blk_cell BK102.out 0).trans rfl
                                            have hcz44_1 : wc.cell? ⟨gb102, 1, none⟩ = some (.int .i64 ((rd_T71 l0 x6_1).f1)) := (blk_cell BK102.out 1).trans rfl
                                            have hcz44_2 : wc.cell? ⟨gb102, 2, none⟩ = some (u103002) := (blk_cell BK102.out 2).trans rfl
                                            have hcz44_3 : wc.cell? ⟨gb102, 3, none⟩ = some (.int .i64 ((rd_T71 l0 x6_1).f3)) := (blk_cell BK102.out 3).trans rfl
                                            have hfz44_0 := blk_frozen BK102.out 0
                                            have hfz44_1 := blk_frozen BK102.out 1
                                            have hfz44_2 := blk_frozen BK102.out 2
                                            have hfz44_3 := blk_frozen BK102.out 3
                                            go_wp2_with (first | ((with_reducible refine gate_callee (f := 41) rfl ?_); refine goesL_ (some 64) rfl rfl Try.func41 (by kernel_rfl) rfl #[.int .i64 ((rd_T71 l0 x6_1).f1), .int .i64 (wrap64 (x8_20 + 1))] rfl (by (try simp only [List.map_toArray, List.map_cons, List.map_nil]); first | done | rfl | (simp only [List.length_drop, List.length_take]; rfl)) ?_; (with_reducible refine (kindlingref01_Among.calls ((rd_T71 l0 x6_1).f1) (wrap64 (x8_20 + 1)) t117 _ A42.out).mono ?_); rintro e w' ⟨rfl, ⟨nd, rfl⟩⟩; refine ⟨_, rfl, ?_⟩; (try (rw [drewN_self wc]; generalize hq_ : World.drewN wc _ = wc; have n0_ : Aside0 (Kd.R (Kd.int .i64) 3 wc w.heap.size (fun _ => True) u103002 x103002_20) := ⟨by rw [← hq_]; exact (by (with_reducible repeat (first | apply Kd.R_alloc | apply Kd.R_drewN | apply Kd.R_drew)); exact HO_103002.out)⟩; have n1_ : Aside0 (Kd.S k71 71 wc w.heap.size (fun k_ => some k_ ≠ (u103002 : Value).ownBlock ∧ k_ ≠ gb102) u4 x4_1) := ⟨by rw [← hq_]; exact (by (with_reducible repeat (first | apply Kd.S_alloc | apply Kd.S_drewN | apply Kd.S_drew)); exact HO_4.out)⟩; have n2_ : Aside0 (wc.heap[gb102]? = some (.cells #[.int .i64 (wrap64 (1 + t103)), .int .i64 ((rd_T71 l0 x6_1).f1), u103002, .int .i64 ((rd_T71 l0 x6_1).f3)] 71 (0, 0))) := ⟨by rw [← hq_]; exact (by (with_reducible repeat (first | refine blk_drewN ?_ _ | refine blk_drew ?_ | refine blk_alloc ?_ _)); exact BK102.out)⟩; have n3_ : Aside0 (Below w.heap.size w wc) := ⟨by rw [← hq_]; exact (by repeat (first | (with_reducible first | exact HB.out | apply below_alloc | apply pw_below_drewN | apply below_drew1 | refine below_set ?_ GE102.out) | exact HB.out))⟩; clear HO_103002 HO_4 BK102 HB hq_; have HO_103002 := n0_; have HO_4 := n1_; have BK102 := n2_; have HB := n3_; clear n0_ n1_ n2_ n3_; have hcqgb102_0 : wc.cell? ⟨gb102, 0, none⟩ = some (.int .i64 (wrap64 (1 + t103))) := (blk_cell BK102.out 0).trans rfl; have hfqgb102_0 := blk_frozen BK102.out 0; have hcqgb102_1 : wc.cell? ⟨gb102, 1, none⟩ = some (.int .i64 ((rd_T71 l0 x6_1).f1)) := (blk_cell BK102.out 1).trans rfl; have hfqgb102_1 := blk_frozen BK102.out 1; have hcqgb102_2 : wc.cell? ⟨gb102, 2, none⟩ = some (u103002) := (blk_cell BK102.out 2).trans rfl; have hfqgb102_2 := blk_frozen BK102.out 2; have hcqgb102_3 : wc.cell? ⟨gb102, 3, none⟩ = some (.int .i64 ((rd_T71 l0 x6_1).f3)) := (blk_cell BK102.out 3).trans rfl; have hfqgb102_3 := blk_frozen BK102.out 3))) | ((with_reducible refine gate_store (t := 3) (p := 65) rfl ?_); refine store_event (t := 3) (p := 65) (v := ?vo_w45) (w1 := (wc.setCell ⟨gb102, 1, none⟩ (.int .i64 t117))) ?hg ?ho ?hn ?hr ?_; (case ho => rfl); (case hg => rfl); (case hn => rfl); (case hr => first | (go_simp; done) | (go_simp; rfl)); intro w45 hw; have n0_ : Aside0 (Kd.S k71 71 w45 w.heap.size (fun k_ => some k_ ≠ (u103002 : Value).ownBlock ∧ k_ ≠ gb102) u4 x4_1) := ⟨(by rw [hw]; exact (by (with_reducible repeat (first | apply Kd.S_alloc | apply Kd.S_drewN | apply Kd.S_drew)); exact Kd.S_mono (Kd.S_far (p := ⟨gb102, 1, none⟩) (Kd.S_mono HO_4.out (fun k_ hk => (⟨hk, hk.2⟩ : _ ∧ k_ ≠ gb102))) (fun _ hk => hk.2) (.int .i64 t117)) (fun _ hk => ⟨hk.1.1, hk.1.2⟩)))⟩; have n1_ : Aside0 (Kd.R (Kd.int .i64) 3 w45 w.heap.size (fun _ => True) u103002 x103002_20) := ⟨(by rw [hw]; exact (by (with_reducible repeat (first | apply Kd.R_alloc | apply Kd.R_drewN | apply Kd.R_drew)); exact Kd.R_mono (Kd.R_far (p := ⟨gb102, 1, none⟩) (Kd.R_types HO_103002.out BK102.out (by decide)) (fun _ hk => hk.2) (.int .i64 t117)) (fun _ hk => trivial)))⟩; have n2_ : Aside0 (w45.heap[gb102]? = some (.cells #[.int .i64 (wrap64 (1 + t103)), .int .i64 t117, u103002, .int .i64 ((rd_T71 l0 x6_1).f3)] 71 (0, 0))) := ⟨(by rw [hw]; exact (by (with_reducible repeat (first | refine blk_drewN ?_ _ | refine blk_drew ?_ | refine blk_alloc ?_ _)); refine blk_put (cs := #[.int .i64 (wrap64 (1 + t103)), .int .i64 ((rd_T71 l0 x6_1).f1), u103002, .int .i64 ((rd_T71 l0 x6_1).f3)]) ?_ 1 _ rfl; (with_reducible repeat (first | refine blk_drewN ?_ _ | refine blk_drew ?_ | refine blk_alloc ?_ _)); exact BK102.out))⟩; have n3_ : Aside0 (Below w.heap.size w w45) := ⟨(by rw [hw]; exact (by repeat (first | (with_reducible first | exact HB.out | apply below_alloc | apply pw_below_drewN | apply below_drew1 | refine below_set ?_ GE102.out) | exact HB.out)))⟩; clear hw; clear HO_4; clear HO_103002; clear BK102; clear HB; have HO_4 := n0_; have HO_103002 := n1_; have BK102 := n2_; have HB := n3_; clear n0_ n1_ n2_ n3_; have hcz46_0 : w45.cell? ⟨gb102, 0, none⟩ = some (.int .i64 (wrap64 (1 + t103))) := (blk_cell BK102.out 0).trans rfl; have hcz46_1 : w45.cell? ⟨gb102, 1, none⟩ = some (.int .i64 t117) := (blk_cell BK102.out 1).trans rfl; have hcz46_2 : w45.cell? ⟨gb102, 2, none⟩ = some (u103002) := (blk_cell BK102.out 2).trans rfl; have hcz46_3 : w45.cell? ⟨gb102, 3, none⟩ = some (.int .i64 ((rd_T71 l0 x6_1).f3)) := (blk_cell BK102.out 3).trans rfl; have hfz46_0 := blk_frozen BK102.out 0; have hfz46_1 := blk_frozen BK102.out 1; have hfz46_2 := blk_frozen BK102.out 2; have hfz46_3 := blk_frozen BK102.out 3; obtain ⟨Ao48, co48, eo48⟩ := Kd.R_slice HO_103002.out; subst eo48) | ((with_reducible refine gate_builtin (b := .append) (xs := #[.tmp 70, .tmp 72]) rfl ?_); at_builtin; refine Kd.S_append k71 (w0 := w) w.heap.size rfl (.tmp 70) (.tmp 72) 22 71 (.agg #[(.int .i64 0), (.int .i64 0), (.slice none 0 0), (.int .i64 0)]) 48 rfl Try.underlying22 info71 rfl (by decide) (by omega) u4 x4_1 (⟨(wrap64 (1 + t103)), t117, x103002_20, ((rd_T71 l0 x6_1).f3)⟩ : S71) [.int .i64 (wrap64 (1 + t103)), .int .i64 t117, .slice Ao48 x103002_20.length co48, .int .i64 ((rd_T71 l0 x6_1).f3)] (fun k_ => k_ ≠ gb102) (fun k_ => some k_ = (.slice Ao48 x103002_20.length co48 : Value).ownBlock) rfl rfl ?aP (fun k_ hk_ => ((Kd.R_mono (ok' := fun k_ => ((fun k_ => k_ ≠ gb102)) k_ ∧ some k_ ≠ (u4 : Value).ownBlock) (Kd.R_types (Kd.R_apart' (HO_103002.out) (Kd.S_typed HO_4.out) (by decide)) BK102.out (by decide)) (fun k_ hk => ⟨hk.2, hk.1.2⟩))).1 k_ hk_.symm) ?aF ?aO ?aB ?aS ?aL ?_; (case aP => exact k71_mkM _ _ _ (⟨(wrap64 (1 + t103)), t117, x103002_20, ((rd_T71 l0 x6_1).f3)⟩ : S71) (Kd.R_mono (Kd.R_tight rfl (Kd.R_mono (ok' := fun k_ => ((fun k_ => k_ ≠ gb102)) k_ ∧ some k_ ≠ (u4 : Value).ownBlock) (Kd.R_types (Kd.R_apart' (HO_103002.out) (Kd.S_typed HO_4.out) (by decide)) BK102.out (by decide)) (fun k_ hk => ⟨hk.2, hk.1.2⟩))) (fun _ h_ => h_))); (case aB => exact (by repeat (first | (with_reducible first | exact HB.out | apply below_alloc | apply pw_below_drewN | apply below_drew1 | refine below_set ?_ GE102.out) | exact HB.out))); (case aF => exact (fun k_ hk => Kd.freshB (g := gb102) (o := .cells #[.int .i64 (wrap64 (1 + t103)), .int .i64 t117, .slice Ao48 x103002_20.length co48, .int .i64 ((rd_T71 l0 x6_1).f3)] 71 (0, 0)) (by (with_reducible repeat (first | refine blk_drewN ?_ _ | refine blk_drew ?_ | refine blk_alloc ?_ _)); exact BK102.out) k_ hk)); (case aO => exact (by (with_reducible repeat (first | apply Kd.S_alloc | apply Kd.S_drewN | apply Kd.S_drew)); exact Kd.S_mono HO_4.out (fun k_ hk => ⟨hk.2, fun e_ => hk.1 e_⟩))); (case aS => exact (below_size (by repeat (first | (with_reducible first | exact HB.out | apply below_alloc | apply pw_below_drewN | apply below_drew1 | refine below_set ?_ GE102.out) | exact HB.out)))); (case aL => have := LMc43.out; omega); intro v119 w47 ho hb hg hat; rw [← Ny118.out] at ho; have n0_ := Aside0.mk (blk_grown (g := gb102) (o := .cells #[.int .i64 (wrap64 (1 + t103)), .int .i64 t117, .slice Ao48 x103002_20.length co48, .int .i64 ((rd_T71 l0 x6_1).f3)] 71 (0, 0)) (by (with_reducible repeat (first | refine blk_drewN ?_ _ | refine blk_drew ?_ | refine blk_alloc ?_ _)); exact BK102.out) hg (Kd.S_away HO_4.out (fun _ hk => hk.2))); have n1_ := Aside0.mk (hb); have n2_ := Aside0.mk (ho); clear BK102; clear HB; clear HO_4; clear HO_103002; have BK102 := n0_; have HB := n1_; have HO120 := n2_; clear n0_ n1_ n2_; clear ho hb hg hat))
                                            go_roundg kj20
                                            case measure => have := HK1.out; have := HJ1.out; have := HJ7.out; have := HJ11.out; have := HJ15.out; have := HJ20.out; omega
                                            case rel => exact ⟨(y118), (wrap64 ((wrap64 (x5_1 + 1)) + x8_20)), (wrap64 (x6_1 + 1)), (by first | rfl | (simp; done) | (simp [*]; done)), (by first | rfl | (simp; done) | (simp [*]; done)), H', ⟨by have := HK1.out; have := HJ1.out; have := HJ7.out; have := HJ11.out; have := HJ15.out; have := HJ20.out; omega⟩, ⟨by (with_reducible repeat (first | apply Kd.S_alloc | apply Kd.S_drewN | apply Kd.S_drew)); exact Kd.S_mono HO120.out (fun _ hk => trivial)⟩, ⟨by repeat (first | (with_reducible first | exact HB.out | apply below_alloc | apply pw_below_drewN | apply below_drew1 | refine below_set ?_ GE102.out) | exact HB.out)⟩⟩
                                          · rw [if_neg c43] at H
                                            exact absurd H (by simp)
                                        · rw [if_neg c41] at H
                                          have c41b0 : ((wrap64 (1 + t103)) == 5) = false := beq_eq_false_iff_ne.mpr c41
                                          have c41b1 : ((wrap64 (1 + t103)) != 5) = true := bne_iff_ne.mpr c41
                                          by_cases c49 : x4_1.length < 2932031007402
                                          · rw [if_pos c49] at H
                                            have LMc49 := Aside0.mk c49
                                            clear c49
                                            obtain ⟨y121, hy121⟩ : ∃ y_ : List (S71), y_ = (x4_1 ++ [(⟨(wrap64 (1 + t103)), x8_20, x103002_20, ((rd_T71 l0 x6_1).f3)⟩ : S71)]) := ⟨_, rfl⟩
                                            replace H : (kindlingref04_Heap.l0 kj20 l0 y121 (wrap64 ((wrap64 (x5_1 + 1)) + x8_20)) (wrap64 (x6_1 + 1))) = some (r1, r2) := by first | (rw [hy121]; with_reducible exact H) | (have H2_ := (Option.bind_some _ _).symm.trans H; rw [hy121]; with_reducible exact H2_) | (have H2_ := (Option.bind_some _ _).symm.trans H; with_reducible exact H2_) | with_reducible exact H | (rw [hy121]; exact H) | exact H
                                            have Ny121 := Aside0.mk hy121
                                            clear hy121
                                            have H' := Aside0.mk H
                                            clear H
                                            have hcz50_0 : wc.cell? ⟨gb102, 0, none⟩ = some (.int .i64 (wrap64 (1 + t103))) := (blk_cell BK102.out 0).trans rfl
                                            have hcz50_1 : wc.cell? ⟨gb102, 1, none⟩ = some (.int .i64 ((rd_T71 l0 x6_1).f1)) := (blk_cell BK102.out 1).trans rfl
                                            have hcz50_2 : wc.cell? ⟨gb102, 2, none⟩ = some (u103002) := (blk_cell BK102.out 2).trans rfl
                                            have hcz50_3 : wc.cell? ⟨gb102, 3, none⟩ = some (.int .i64 ((rd_T71 l0 x6_1).f3)) := (blk_cell BK102.out 3).trans rfl
                                            have hfz50_0 := blk_frozen BK102.out 0
                                            have hfz50_1 := blk_frozen BK102.out 1
                                            have hfz50_2 := blk_frozen BK102.out 2
                                            have hfz50_3 := blk_frozen BK102.out 3
                                            go_wp2_with (first | ((with_reducible refine gate_store (t := 3) (p := 54) rfl ?_); refine store_event (t := 3) (p := 54) (v := ?vo_w51) (w1 := (wc.setCell ⟨gb102, 1, none⟩ (.int .i64 x8_20))) ?hg ?ho ?hn ?hr ?_; (case ho => rfl); (case hg => rfl); (case hn => rfl); (case hr => first | (go_simp; done) | (go_simp; rfl)); intro w51 hw; have n0_ : Aside0 (Kd.S k71 71 w51 w.heap.size (fun k_ => some k_ ≠ (u103002 : Value).ownBlock ∧ k_ ≠ gb102) u4 x4_1) := ⟨(by rw [hw]; exact (by (with_reducible repeat (first | apply Kd.S_alloc | apply Kd.S_drewN | apply Kd.S_drew)); exact Kd.S_mono (Kd.S_far (p := ⟨gb102, 1, none⟩) (Kd.S_mono HO_4.out (fun k_ hk => (⟨hk, hk.2⟩ : _ ∧ k_ ≠ gb102))) (fun _ hk => hk.2) (.int .i64 x8_20)) (fun _ hk => ⟨hk.1.1, hk.1.2⟩)))⟩; have n1_ : Aside0 (Kd.R (Kd.int .i64) 3 w51 w.heap.size (fun _ => True) u103002 x103002_20) := ⟨(by rw [hw]; exact (by (with_reducible repeat (first | apply Kd.R_alloc | apply Kd.R_drewN | apply Kd.R_drew)); exact Kd.R_mono (Kd.R_far (p := ⟨gb102, 1, none⟩) (Kd.R_types HO_103002.out BK102.out (by decide)) (fun _ hk => hk.2) (.int .i64 x8_20)) (fun _ hk => trivial)))⟩; have n2_ : Aside0 (w51.heap[gb102]? = some (.cells #[.int .i64 (wrap64 (1 + t103)), .int .i64 x8_20, u103002, .int .i64 ((rd_T71 l0 x6_1).f3)] 71 (0, 0))) := ⟨(by rw [hw]; exact (by (with_reducible repeat (first | refine blk_drewN ?_ _ | refine blk_drew ?_ | refine blk_alloc ?_ _)); refine blk_put (cs := #[.int .i64 (wrap64 (1 + t103)), .int .i64 ((rd_T71 l0 x6_1).f1), u103002, .int .i64 ((rd_T71 l0 x6_1).f3)]) ?_ 1 _ rfl; (with_reducible repeat (first | refine blk_drewN ?_ _ | refine blk_drew ?_ | refine blk_alloc ?_ _)); exact BK102.out))⟩; have n3_ : Aside0 (Below w.heap.size w w51) := ⟨(by rw [hw]; exact (by repeat (first | (with_reducible first | exact HB.out | apply below_alloc | apply pw_below_drewN | apply below_drew1 | refine below_set ?_ GE102.out) | exact HB.out)))⟩; clear hw; clear HO_4; clear HO_103002; clear BK102; clear HB; have HO_4 := n0_; have HO_103002 := n1_; have BK102 := n2_; have HB := n3_; clear n0_ n1_ n2_ n3_; have hcz52_0 : w51.cell? ⟨gb102, 0, none⟩ = some (.int .i64 (wrap64 (1 + t103))) := (blk_cell BK102.out 0).trans rfl; have hcz52_1 : w51.cell? ⟨gb102, 1, none⟩ = some (.int .i64 x8_20) := (blk_cell BK102.out 1).trans rfl; have hcz52_2 : w51.cell? ⟨gb102, 2, none⟩ = some (u103002) := (blk_cell BK102.out 2).trans rfl; have hcz52_3 : w51.cell? ⟨gb102, 3, none⟩ = some (.int .i64 ((rd_T71 l0 x6_1).f3)) := (blk_cell BK102.out 3).trans rfl; have hfz52_0 := blk_frozen BK102.out 0; have hfz52_1 := blk_frozen BK102.out 1; have hfz52_2 := blk_frozen BK102.out 2; have hfz52_3 := blk_frozen BK102.out 3; obtain ⟨Ao54, co54, eo54⟩ := Kd.R_slice HO_103002.out; subst eo54) | ((with_reducible refine gate_builtin (b := .append) (xs := #[.tmp 70, .tmp 72]) rfl ?_); at_builtin; refine Kd.S_append k71 (w0 := w) w.heap.size rfl (.tmp 70) (.tmp 72) 22 71 (.agg #[(.int .i64 0), (.int .i64 0), (.slice none 0 0), (.int .i64 0)]) 48 rfl Try.underlying22 info71 rfl (by decide) (by omega) u4 x4_1 (⟨(wrap64 (1 + t103)), x8_20, x103002_20, ((rd_T71 l0 x6_1).f3)⟩ : S71) [.int .i64 (wrap64 (1 + t103)), .int .i64 x8_20, .slice Ao54 x103002_20.length co54, .int .i64 ((rd_T71 l0 x6_1).f3)] (fun k_ => k_ ≠ gb102) (fun k_ => some k_ = (.slice Ao54 x103002_20.length co54 : Value).ownBlock) rfl rfl ?aP (fun k_ hk_ => ((Kd.R_mono (ok' := fun k_ => ((fun k_ => k_ ≠ gb102)) k_ ∧ some k_ ≠ (u4 : Value).ownBlock) (Kd.R_types (Kd.R_apart' (HO_103002.out) (Kd.S_typed HO_4.out) (by decide)) BK102.out (by decide)) (fun k_ hk => ⟨hk.2, hk.1.2⟩))).1 k_ hk_.symm) ?aF ?aO ?aB ?aS ?aL ?_; (case aP => exact k71_mkM _ _ _ (⟨(wrap64 (1 + t103)), x8_20, x103002_20, ((rd_T71 l0 x6_1).f3)⟩ : S71) (Kd.R_mono (Kd.R_tight rfl (Kd.R_mono (ok' := fun k_ => ((fun k_ => k_ ≠ gb102)) k_ ∧ some k_ ≠ (u4 : Value).ownBlock) (Kd.R_types (Kd.R_apart' (HO_103002.out) (Kd.S_typed HO_4.out) (by decide)) BK102.out (by decide)) (fun k_ hk => ⟨hk.2, hk.1.2⟩))) (fun _ h_ => h_))); (case aB => exact (by repeat (first | (with_reducible first | exact HB.out | apply below_alloc | apply pw_below_drewN | apply below_drew1 | refine below_set ?_ GE102.out) | exact HB.out))); (case aF => exact (fun k_ hk => Kd.freshB (g := gb102) (o := .cells #[.int .i64 (wrap64 (1 + t103)), .int .i64 x8_20, .slice Ao54 x103002_20.length co54, .int .i64 ((rd_T71 l0 x6_1).f3)] 71 (0, 0)) (by (with_reducible repeat (first | refine blk_drewN ?_ _ | refine blk_drew ?_ | refine blk_alloc ?_ _)); exact BK102.out) k_ hk)); (case aO => exact (by (with_reducible repeat (first | apply Kd.S_alloc | apply Kd.S_drewN | apply Kd.S_drew)); exact Kd.S_mono HO_4.out (fun k_ hk => ⟨hk.2, fun e_ => hk.1 e_⟩))); (case aS => exact (below_size (by repeat (first | (with_reducible first | exact HB.out | apply below_alloc | apply pw_below_drewN | apply below_drew1 | refine below_set ?_ GE102.out) | exact HB.out)))); (case aL => have := LMc49.out; omega); intro v122 w53 ho hb hg hat; rw [← Ny121.out] at ho; have n0_ := Aside0.mk (blk_grown (g := gb102) (o := .cells #[.int .i64 (wrap64 (1 + t103)), .int .i64 x8_20, .slice Ao54 x103002_20.length co54, .int .i64 ((rd_T71 l0 x6_1).f3)] 71 (0, 0)) (by (with_reducible repeat (first | refine blk_drewN ?_ _ | refine blk_drew ?_ | refine blk_alloc ?_ _)); exact BK102.out) hg (Kd.S_away HO_4.out (fun _ hk => hk.2))); have n1_ := Aside0.mk (hb); have n2_ := Aside0.mk (ho); clear BK102; clear HB; clear HO_4; clear HO_103002; have BK102 := n0_; have HB := n1_; have HO123 := n2_; clear n0_ n1_ n2_; clear ho hb hg hat))
                                            go_roundg kj20
                                            case measure => have := HK1.out; have := HJ1.out; have := HJ7.out; have := HJ11.out; have := HJ15.out; have := HJ20.out; omega
                                            case rel => exact ⟨(y121), (wrap64 ((wrap64 (x5_1 + 1)) + x8_20)), (wrap64 (x6_1 + 1)), (by first | rfl | (simp; done) | (simp [*]; done)), (by first | rfl | (simp; done) | (simp [*]; done)), H', ⟨by have := HK1.out; have := HJ1.out; have := HJ7.out; have := HJ11.out; have := HJ15.out; have := HJ20.out; omega⟩, ⟨by (with_reducible repeat (first | apply Kd.S_alloc | apply Kd.S_drewN | apply Kd.S_drew)); exact Kd.S_mono HO123.out (fun _ hk => trivial)⟩, ⟨by repeat (first | (with_reducible first | exact HB.out | apply below_alloc | apply pw_below_drewN | apply below_drew1 | refine below_set ?_ GE102.out) | exact HB.out)⟩⟩
                                          · rw [if_neg c49] at H
                                            exact absurd H (by simp)
                                · rw [if_neg c20] at H
                                  exact absurd H (by simp)
                              · rw [if_neg c19] at H
                                exact absurd H (by simp)
                            · rw [if_neg c18] at H
                              exact absurd H (by simp)
              · rw [if_neg c6] at H
                exact absurd H (by simp)
            · rw [if_neg c5] at H
              exact absurd H (by simp)
          · replace c4 := Bool.eq_false_iff.mpr c4
            subst c4
            have H1 : (some (x4_1, x5_1)) = some (r1, r2) := by rw [if_neg (show ¬ (false = true) by decide)] at H; exact H
            clear H
            have H := H1
            clear H1
            simp only [Option.some.injEq, Prod.mk.injEq] at H
            obtain ⟨rfl, rfl⟩ := H
            go_wp2
            go_ret2
            exact ⟨_, by first | rfl | (simp [errW_none, errW_some] <;> rfl) | (simp [*, errW_none, errW_some] <;> rfl), by (with_reducible repeat (first | apply Kd.S_alloc | apply Kd.S_drewN | apply Kd.S_drew)); exact HO_4.out, by repeat (first | (with_reducible first | exact HB.out | apply below_alloc | apply pw_below_drewN | apply below_drew1) | exact HB.out)⟩

-- NOT PRINTED: function 32 (mem_Mem_Free)

end Go.Proofs.Ytjccaojlldkmpaa.Pa
