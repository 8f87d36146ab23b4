-- PRINTED by print.py (a twelfth state) out of the translation. Not trusted: Lean checks it.
import Derived.Test.YtljbkonhailamaaPr0
import Derived.Test.YtljbkonhailamaaPr1
namespace Go.Proofs.Ytljbkonhailamaa.Pr
open Go.RowKit Go.Proofs.YtljbkonhailamaaW.PrintWords Go.Proofs.YtljbkonhailamaaW.PrintLast Go.Proofs.YtljbkonhailamaaW.PrintMore
attribute [local go_sem] max2_int min2_int max_two min_two max_three min_three max_four min_four   -- for this text's walks alone
set_option linter.unusedVariables false
set_option linter.unusedSimpArgs false

/-! ### kindlinglaw01_NumRing: function 4 -/
def kindlinglaw01_NumRing.j0 : Nat → Int → Int → Int → Bool → Option (Bool)
  | 0, _, _, _, _ => none
  | k + 1, x0, x1, x2, x48 => if x48 = true then (some false) else ((num_Add.f x1 x2).bind fun t146 => ((num_Mul.f x0 t146).bind fun t147 => ((num_Mul.f x0 x1).bind fun t148 => ((num_Mul.f x0 x2).bind fun t149 => ((num_Add.f t148 t149).bind fun t150 => (if t147 = t150 then ((num_Add.f x0 x1).bind fun t151 => ((num_Sub.f t151 x1).bind fun t152 => ((num_Wrap.f x0).bind fun t153 => (if t152 = t153 then ((num_Neg.f x0).bind fun t154 => ((num_Add.f x0 t154).bind fun t155 => (if t155 = 0 then ((kindlinglaw01_known.f).bind fun t156 => (some t156)) else (some false)))) else (some false))))) else (some false)))))))
def kindlinglaw01_NumRing.f (k : Nat) (a0 : Int) (a1 : Int) (a2 : Int) : Option (Bool) := (num_Add.f a0 a1).bind fun t134 => ((num_Add.f a1 a0).bind fun t135 => (if t134 = t135 then ((num_Mul.f a0 a1).bind fun t136 => ((num_Mul.f a1 a0).bind fun t137 => (if t136 = t137 then ((num_Add.f a0 a1).bind fun t138 => ((num_Add.f t138 a2).bind fun t139 => ((num_Add.f a1 a2).bind fun t140 => ((num_Add.f a0 t140).bind fun t141 => (if t139 = t141 then ((num_Mul.f a0 a1).bind fun t142 => ((num_Mul.f t142 a2).bind fun t143 => ((num_Mul.f a1 a2).bind fun t144 => ((num_Mul.f a0 t144).bind fun t145 => (kindlinglaw01_NumRing.j0 k a0 a1 a2 (t143 != t145)))))) else (kindlinglaw01_NumRing.j0 k a0 a1 a2 true)))))) else (kindlinglaw01_NumRing.j0 k a0 a1 a2 true)))) else (kindlinglaw01_NumRing.j0 k a0 a1 a2 true)))
theorem kindlinglaw01_NumRing.mono_l : ∀ k, (∀ y0 y1 y2 y3, LeO (kindlinglaw01_NumRing.j0 k y0 y1 y2 y3) (kindlinglaw01_NumRing.j0 (k + 1) y0 y1 y2 y3))
  | 0 => fun _ _ _ _ r h => by simp [kindlinglaw01_NumRing.j0] at h
  | k + 1 => by
    have ih0 := kindlinglaw01_NumRing.mono_l k
    · intro y0 y1 y2 y3
      unfold kindlinglaw01_NumRing.j0
      repeat' first
      | (with_reducible exact ih0 _ _ _ _)
      | (with_reducible exact LeO.refl _)
      | (with_reducible exact LeO.none _)
      | (with_reducible refine LeO.ite ?_ ?_)
      | (with_reducible refine LeO.bind ?_ (fun _ => ?_))
      | exact ih0 _ _ _ _
      | exact LeO.none _
      | refine LeO.ite ?_ ?_
      | refine LeO.bind ?_ (fun _ => ?_)
theorem kindlinglaw01_NumRing.mono : ∀ a0 a1 a2 k, LeO (kindlinglaw01_NumRing.f k a0 a1 a2) (kindlinglaw01_NumRing.f (k + 1) a0 a1 a2) := by
  intro a0 a1 a2 k
  have ih0 := kindlinglaw01_NumRing.mono_l k
  unfold kindlinglaw01_NumRing.f
  repeat' first
      | (with_reducible exact ih0 _ _ _ _)
      | (with_reducible exact LeO.refl _)
      | (with_reducible exact LeO.none _)
      | (with_reducible refine LeO.ite ?_ ?_)
      | (with_reducible refine LeO.bind ?_ (fun _ => ?_))
      | exact ih0 _ _ _ _
      | exact LeO.none _
      | refine LeO.ite ?_ ?_
      | refine LeO.bind ?_ (fun _ => ?_)
set_option maxHeartbeats 8000000 in
set_option maxRecDepth 100000 in
theorem kindlinglaw01_NumRing.calls (k : Nat) (a0 : Int) (a1 : Int) (a2 : Int) (r : Bool) (w : World) (h : kindlinglaw01_NumRing.f k a0 a1 a2 = some r) :
    Calls Try.prog 4 #[.int .i64 a0, .int .i64 a1, .int .i64 a2] w fun e w' => e = .returned (.bool r) ∧ Below w.heap.size w w' := by
  have HB := Aside0.mk (Below.refl w.heap.size w)
  have H : ((num_Add.f a0 a1).bind fun t134 => ((num_Add.f a1 a0).bind fun t135 => (if t134 = t135 then ((num_Mul.f a0 a1).bind fun t136 => ((num_Mul.f a1 a0).bind fun t137 => (if t136 = t137 then ((num_Add.f a0 a1).bind fun t138 => ((num_Add.f t138 a2).bind fun t139 => ((num_Add.f a1 a2).bind fun t140 => ((num_Add.f a0 t140).bind fun t141 => (if t139 = t141 then ((num_Mul.f a0 a1).bind fun t142 => ((num_Mul.f t142 a2).bind fun t143 => ((num_Mul.f a1 a2).bind fun t144 => ((num_Mul.f a0 t144).bind fun t145 => (kindlinglaw01_NumRing.j0 k a0 a1 a2 (t143 != t145)))))) else (kindlinglaw01_NumRing.j0 k a0 a1 a2 true)))))) else (kindlinglaw01_NumRing.j0 k a0 a1 a2 true)))) else (kindlinglaw01_NumRing.j0 k a0 a1 a2 true)))) = some r := h
  clear h
  have HC4 := Aside0.mk H
  clear H
  go_enter Try.func4, Try.ntmps4
  go_upto_region 1 with (fail)
  go_cut [48] (fun v48 wc => ∃ (kq : Nat) (x48_3 : Bool), v48 = .bool x48_3 ∧ Aside0 (kindlinglaw01_NumRing.j0 kq a0 a1 a2 x48_3 = some r) ∧ Aside0 (kq ≤ k) ∧ Aside0 (Below w.heap.size w wc))
  case first =>
    have H := HC4.out
    clear HC4
    replace H := Option.bind_eq_some_iff.mp H
    obtain ⟨t134, A50, H⟩ := H
    replace H : ((num_Add.f a1 a0).bind fun t135 => (if t134 = t135 then ((num_Mul.f a0 a1).bind fun t136 => ((num_Mul.f a1 a0).bind fun t137 => (if t136 = t137 then ((num_Add.f a0 a1).bind fun t138 => ((num_Add.f t138 a2).bind fun t139 => ((num_Add.f a1 a2).bind fun t140 => ((num_Add.f a0 t140).bind fun t141 => (if t139 = t141 then ((num_Mul.f a0 a1).bind fun t142 => ((num_Mul.f t142 a2).bind fun t143 => ((num_Mul.f a1 a2).bind fun t144 => ((num_Mul.f a0 t144).bind fun t145 => (kindlinglaw01_NumRing.j0 k a0 a1 a2 (t143 != t145)))))) else (kindlinglaw01_NumRing.j0 k a0 a1 a2 true)))))) else (kindlinglaw01_NumRing.j0 k a0 a1 a2 true)))) else (kindlinglaw01_NumRing.j0 k a0 a1 a2 true))) = some r := H
    have A5 := Aside0.mk A50
    clear A50
    replace H := Option.bind_eq_some_iff.mp H
    obtain ⟨t135, A60, H⟩ := H
    replace H : (if t134 = t135 then ((num_Mul.f a0 a1).bind fun t136 => ((num_Mul.f a1 a0).bind fun t137 => (if t136 = t137 then ((num_Add.f a0 a1).bind fun t138 => ((num_Add.f t138 a2).bind fun t139 => ((num_Add.f a1 a2).bind fun t140 => ((num_Add.f a0 t140).bind fun t141 => (if t139 = t141 then ((num_Mul.f a0 a1).bind fun t142 => ((num_Mul.f t142 a2).bind fun t143 => ((num_Mul.f a1 a2).bind fun t144 => ((num_Mul.f a0 t144).bind fun t145 => (kindlinglaw01_NumRing.j0 k a0 a1 a2 (t143 != t145)))))) else (kindlinglaw01_NumRing.j0 k a0 a1 a2 true)))))) else (kindlinglaw01_NumRing.j0 k a0 a1 a2 true)))) else (kindlinglaw01_NumRing.j0 k a0 a1 a2 true)) = some r := H
    have A6 := Aside0.mk A60
    clear A60
    by_cases c7 : t134 = t135
    · rw [if_pos c7] at H
      have c7b0 : (t134 == t135) = true := beq_iff_eq.mpr c7
      have c7b1 : (t134 != t135) = false := bne_eq_false_iff_eq.mpr c7
      clear c7
      (first | rw [c7b0] | (simp only [i64_w, i32_w]; rw [c7b0]) | skip)
      replace H := Option.bind_eq_some_iff.mp H
      obtain ⟨t136, A80, H⟩ := H
      replace H : ((num_Mul.f a1 a0).bind fun t137 => (if t136 = t137 then ((num_Add.f a0 a1).bind fun t138 => ((num_Add.f t138 a2).bind fun t139 => ((num_Add.f a1 a2).bind fun t140 => ((num_Add.f a0 t140).bind fun t141 => (if t139 = t141 then ((num_Mul.f a0 a1).bind fun t142 => ((num_Mul.f t142 a2).bind fun t143 => ((num_Mul.f a1 a2).bind fun t144 => ((num_Mul.f a0 t144).bind fun t145 => (kindlinglaw01_NumRing.j0 k a0 a1 a2 (t143 != t145)))))) else (kindlinglaw01_NumRing.j0 k a0 a1 a2 true)))))) else (kindlinglaw01_NumRing.j0 k a0 a1 a2 true))) = some r := H
      have A8 := Aside0.mk A80
      clear A80
      replace H := Option.bind_eq_some_iff.mp H
      obtain ⟨t137, A90, H⟩ := H
      replace H : (if t136 = t137 then ((num_Add.f a0 a1).bind fun t138 => ((num_Add.f t138 a2).bind fun t139 => ((num_Add.f a1 a2).bind fun t140 => ((num_Add.f a0 t140).bind fun t141 => (if t139 = t141 then ((num_Mul.f a0 a1).bind fun t142 => ((num_Mul.f t142 a2).bind fun t143 => ((num_Mul.f a1 a2).bind fun t144 => ((num_Mul.f a0 t144).bind fun t145 => (kindlinglaw01_NumRing.j0 k a0 a1 a2 (t143 != t145)))))) else (kindlinglaw01_NumRing.j0 k a0 a1 a2 true)))))) else (kindlinglaw01_NumRing.j0 k a0 a1 a2 true)) = some r := H
      have A9 := Aside0.mk A90
      clear A90
      by_cases c10 : t136 = t137
      · rw [if_pos c10] at H
        have c10b0 : (t136 == t137) = true := beq_iff_eq.mpr c10
        have c10b1 : (t136 != t137) = false := bne_eq_false_iff_eq.mpr c10
        clear c10
        replace H := Option.bind_eq_some_iff.mp H
        obtain ⟨t138, A110, H⟩ := H
        have e_ : t134 = t138 := Option.some.inj (A5.out.symm.trans A110)
        subst e_
        replace H : ((num_Add.f t134 a2).bind fun t139 => ((num_Add.f a1 a2).bind fun t140 => ((num_Add.f a0 t140).bind fun t141 => (if t139 = t141 then ((num_Mul.f a0 a1).bind fun t142 => ((num_Mul.f t142 a2).bind fun t143 => ((num_Mul.f a1 a2).bind fun t144 => ((num_Mul.f a0 t144).bind fun t145 => (kindlinglaw01_NumRing.j0 k a0 a1 a2 (t143 != t145)))))) else (kindlinglaw01_NumRing.j0 k a0 a1 a2 true))))) = some r := H
        have A11 := Aside0.mk A110
        clear A110
        replace H := Option.bind_eq_some_iff.mp H
        obtain ⟨t139, A120, H⟩ := H
        replace H : ((num_Add.f a1 a2).bind fun t140 => ((num_Add.f a0 t140).bind fun t141 => (if t139 = t141 then ((num_Mul.f a0 a1).bind fun t142 => ((num_Mul.f t142 a2).bind fun t143 => ((num_Mul.f a1 a2).bind fun t144 => ((num_Mul.f a0 t144).bind fun t145 => (kindlinglaw01_NumRing.j0 k a0 a1 a2 (t143 != t145)))))) else (kindlinglaw01_NumRing.j0 k a0 a1 a2 true)))) = some r := H
        have A12 := Aside0.mk A120
        clear A120
        replace H := Option.bind_eq_some_iff.mp H
        obtain ⟨t140, A130, H⟩ := H
        replace H : ((num_Add.f a0 t140).bind fun t141 => (if t139 = t141 then ((num_Mul.f a0 a1).bind fun t142 => ((num_Mul.f t142 a2).bind fun t143 => ((num_Mul.f a1 a2).bind fun t144 => ((num_Mul.f a0 t144).bind fun t145 => (kindlinglaw01_NumRing.j0 k a0 a1 a2 (t143 != t145)))))) else (kindlinglaw01_NumRing.j0 k a0 a1 a2 true))) = some r := H
        have A13 := Aside0.mk A130
        clear A130
        replace H := Option.bind_eq_some_iff.mp H
        obtain ⟨t141, A140, H⟩ := H
        replace H : (if t139 = t141 then ((num_Mul.f a0 a1).bind fun t142 => ((num_Mul.f t142 a2).bind fun t143 => ((num_Mul.f a1 a2).bind fun t144 => ((num_Mul.f a0 t144).bind fun t145 => (kindlinglaw01_NumRing.j0 k a0 a1 a2 (t143 != t145)))))) else (kindlinglaw01_NumRing.j0 k a0 a1 a2 true)) = some r := H
        have A14 := Aside0.mk A140
        clear A140
        by_cases c15 : t139 = t141
        · rw [if_pos c15] at H
          have c15b0 : (t139 == t141) = true := beq_iff_eq.mpr c15
          have c15b1 : (t139 != t141) = false := bne_eq_false_iff_eq.mpr c15
          clear c15
          replace H := Option.bind_eq_some_iff.mp H
          obtain ⟨t142, A160, H⟩ := H
          have e_ : t136 = t142 := Option.some.inj (A8.out.symm.trans A160)
          subst e_
          replace H : ((num_Mul.f t136 a2).bind fun t143 => ((num_Mul.f a1 a2).bind fun t144 => ((num_Mul.f a0 t144).bind fun t145 => (kindlinglaw01_NumRing.j0 k a0 a1 a2 (t143 != t145))))) = some r := H
          have A16 := Aside0.mk A160
          clear A160
          replace H := Option.bind_eq_some_iff.mp H
          obtain ⟨t143, A170, H⟩ := H
          replace H : ((num_Mul.f a1 a2).bind fun t144 => ((num_Mul.f a0 t144).bind fun t145 => (kindlinglaw01_NumRing.j0 k a0 a1 a2 (t143 != t145)))) = some r := H
          have A17 := Aside0.mk A170
          clear A170
          replace H := Option.bind_eq_some_iff.mp H
          obtain ⟨t144, A180, H⟩ := H
          replace H : ((num_Mul.f a0 t144).bind fun t145 => (kindlinglaw01_NumRing.j0 k a0 a1 a2 (t143 != t145))) = some r := H
          have A18 := Aside0.mk A180
          clear A180
          replace H := Option.bind_eq_some_iff.mp H
          obtain ⟨t145, A190, H⟩ := H
          replace H : (kindlinglaw01_NumRing.j0 k a0 a1 a2 (t143 != t145)) = some r := H
          have A19 := Aside0.mk A190
          clear A190
          have H' := Aside0.mk H
          clear H
          go_wp2_with (first | ((with_reducible refine gate_callee (f := 16) rfl ?_); refine goesL_ (some 9) rfl rfl Try.func16 (by kernel_rfl) rfl #[.int .i64 a0, .int .i64 a1] rfl (by (try simp only [List.map_toArray, List.map_cons, List.map_nil]); first | done | rfl | (simp only [List.length_drop, List.length_take]; rfl)) ?_; (with_reducible refine (num_Add.calls a0 a1 t134 _ A5.out).mono ?_); rintro e w' ⟨rfl, ⟨nd, rfl⟩⟩; refine ⟨_, rfl, ?_⟩) | ((with_reducible refine gate_callee (f := 16) rfl ?_); refine goesL_ (some 12) rfl rfl Try.func16 (by kernel_rfl) rfl #[.int .i64 a1, .int .i64 a0] rfl (by (try simp only [List.map_toArray, List.map_cons, List.map_nil]); first | done | rfl | (simp only [List.length_drop, List.length_take]; rfl)) ?_; (with_reducible refine (num_Add.calls a1 a0 t135 _ A6.out).mono ?_); rintro e w' ⟨rfl, ⟨nd, rfl⟩⟩; refine ⟨_, rfl, ?_⟩) | (go_at_call 17; (with_reducible refine (num_Mul.calls a0 a1 t136 _ A8.out).mono ?_); rintro e w' ⟨rfl, ⟨nd, rfl⟩⟩) | (go_at_call 17; (with_reducible refine (num_Mul.calls a1 a0 t137 _ A9.out).mono ?_); rintro e w' ⟨rfl, ⟨nd, rfl⟩⟩) | (go_at_call 16; (with_reducible refine (num_Add.calls a0 a1 t134 _ A11.out).mono ?_); rintro e w' ⟨rfl, ⟨nd, rfl⟩⟩) | (go_at_call 16; (with_reducible refine (num_Add.calls t134 a2 t139 _ A12.out).mono ?_); rintro e w' ⟨rfl, ⟨nd, rfl⟩⟩) | (go_at_call 16; (with_reducible refine (num_Add.calls a1 a2 t140 _ A13.out).mono ?_); rintro e w' ⟨rfl, ⟨nd, rfl⟩⟩) | (go_at_call 16; (with_reducible refine (num_Add.calls a0 t140 t141 _ A14.out).mono ?_); rintro e w' ⟨rfl, ⟨nd, rfl⟩⟩) | (go_at_call 17; (with_reducible refine (num_Mul.calls a0 a1 t136 _ A16.out).mono ?_); rintro e w' ⟨rfl, ⟨nd, rfl⟩⟩) | (go_at_call 17; (with_reducible refine (num_Mul.calls t136 a2 t143 _ A17.out).mono ?_); rintro e w' ⟨rfl, ⟨nd, rfl⟩⟩) | (go_at_call 17; (with_reducible refine (num_Mul.calls a1 a2 t144 _ A18.out).mono ?_); rintro e w' ⟨rfl, ⟨nd, rfl⟩⟩) | (go_at_call 17; (with_reducible refine (num_Mul.calls a0 t144 t145 _ A19.out).mono ?_); rintro e w' ⟨rfl, ⟨nd, rfl⟩⟩))
          go_meet
          case rel => exact ⟨_, ((t143 != t145)), (by first | rfl | (simp; done) | (simp [*]; done)), H', ⟨by first | omega | exact Nat.le_refl _⟩, ⟨by repeat (first | (with_reducible first | exact HB.out | apply below_alloc | apply pw_below_drewN | apply below_drew1) | exact HB.out)⟩⟩
        · rw [if_neg c15] at H
          have c15b0 : (t139 == t141) = false := beq_eq_false_iff_ne.mpr c15
          have c15b1 : (t139 != t141) = true := bne_iff_ne.mpr c15
          have H' := Aside0.mk H
          clear H
          go_wp2_with (first | ((with_reducible refine gate_callee (f := 16) rfl ?_); refine goesL_ (some 9) rfl rfl Try.func16 (by kernel_rfl) rfl #[.int .i64 a0, .int .i64 a1] rfl (by (try simp only [List.map_toArray, List.map_cons, List.map_nil]); first | done | rfl | (simp only [List.length_drop, List.length_take]; rfl)) ?_; (with_reducible refine (num_Add.calls a0 a1 t134 _ A5.out).mono ?_); rintro e w' ⟨rfl, ⟨nd, rfl⟩⟩; refine ⟨_, rfl, ?_⟩) | ((with_reducible refine gate_callee (f := 16) rfl ?_); refine goesL_ (some 12) rfl rfl Try.func16 (by kernel_rfl) rfl #[.int .i64 a1, .int .i64 a0] rfl (by (try simp only [List.map_toArray, List.map_cons, List.map_nil]); first | done | rfl | (simp only [List.length_drop, List.length_take]; rfl)) ?_; (with_reducible refine (num_Add.calls a1 a0 t135 _ A6.out).mono ?_); rintro e w' ⟨rfl, ⟨nd, rfl⟩⟩; refine ⟨_, rfl, ?_⟩) | (go_at_call 17; (with_reducible refine (num_Mul.calls a0 a1 t136 _ A8.out).mono ?_); rintro e w' ⟨rfl, ⟨nd, rfl⟩⟩) | (go_at_call 17; (with_reducible refine (num_Mul.calls a1 a0 t137 _ A9.out).mono ?_); rintro e w' ⟨rfl, ⟨nd, rfl⟩⟩) | (go_at_call 16; (with_reducible refine (num_Add.calls a0 a1 t134 _ A11.out).mono ?_); rintro e w' ⟨rfl, ⟨nd, rfl⟩⟩) | (go_at_call 16; (with_reducible refine (num_Add.calls t134 a2 t139 _ A12.out).mono ?_); rintro e w' ⟨rfl, ⟨nd, rfl⟩⟩) | (go_at_call 16; (with_reducible refine (num_Add.calls a1 a2 t140 _ A13.out).mono ?_); rintro e w' ⟨rfl, ⟨nd, rfl⟩⟩) | (go_at_call 16; (with_reducible refine (num_Add.calls a0 t140 t141 _ A14.out).mono ?_); rintro e w' ⟨rfl, ⟨nd, rfl⟩⟩))
          go_meet
          case rel => exact ⟨_, (true), (by first | rfl | (simp; done) | (simp [*]; done)), H', ⟨by first | omega | exact Nat.le_refl _⟩, ⟨by repeat (first | (with_reducible first | exact HB.out | apply below_alloc | apply pw_below_drewN | apply below_drew1) | exact HB.out)⟩⟩
      · rw [if_neg c10] at H
        have c10b0 : (t136 == t137) = false := beq_eq_false_iff_ne.mpr c10
        have c10b1 : (t136 != t137) = true := bne_iff_ne.mpr c10
        have H' := Aside0.mk H
        clear H
        go_wp2_with (first | ((with_reducible refine gate_callee (f := 16) rfl ?_); refine goesL_ (some 9) rfl rfl Try.func16 (by kernel_rfl) rfl #[.int .i64 a0, .int .i64 a1] rfl (by (try simp only [List.map_toArray, List.map_cons, List.map_nil]); first | done | rfl | (simp only [List.length_drop, List.length_take]; rfl)) ?_; (with_reducible refine (num_Add.calls a0 a1 t134 _ A5.out).mono ?_); rintro e w' ⟨rfl, ⟨nd, rfl⟩⟩; refine ⟨_, rfl, ?_⟩) | ((with_reducible refine gate_callee (f := 16) rfl ?_); refine goesL_ (some 12) rfl rfl Try.func16 (by kernel_rfl) rfl #[.int .i64 a1, .int .i64 a0] rfl (by (try simp only [List.map_toArray, List.map_cons, List.map_nil]); first | done | rfl | (simp only [List.length_drop, List.length_take]; rfl)) ?_; (with_reducible refine (num_Add.calls a1 a0 t135 _ A6.out).mono ?_); rintro e w' ⟨rfl, ⟨nd, rfl⟩⟩; refine ⟨_, rfl, ?_⟩) | (go_at_call 17; (with_reducible refine (num_Mul.calls a0 a1 t136 _ A8.out).mono ?_); rintro e w' ⟨rfl, ⟨nd, rfl⟩⟩) | (go_at_call 17; (with_reducible refine (num_Mul.calls a1 a0 t137 _ A9.out).mono ?_); rintro e w' ⟨rfl, ⟨nd, rfl⟩⟩))
        go_meet
        case rel => exact ⟨_, (true), (by first | rfl | (simp; done) | (simp [*]; done)), H', ⟨by first | omega | exact Nat.le_refl _⟩, ⟨by repeat (first | (with_reducible first | exact HB.out | apply below_alloc | apply pw_below_drewN | apply below_drew1) | exact HB.out)⟩⟩
    · rw [if_neg c7] at H
      have c7b0 : (t134 == t135) = false := beq_eq_false_iff_ne.mpr c7
      have c7b1 : (t134 != t135) = true := bne_iff_ne.mpr c7
      (first | rw [c7b0] | (simp only [i64_w, i32_w]; rw [c7b0]) | skip)
      have H' := Aside0.mk H
      clear H
      go_wp2_with (first | ((with_reducible refine gate_callee (f := 16) rfl ?_); refine goesL_ (some 9) rfl rfl Try.func16 (by kernel_rfl) rfl #[.int .i64 a0, .int .i64 a1] rfl (by (try simp only [List.map_toArray, List.map_cons, List.map_nil]); first | done | rfl | (simp only [List.length_drop, List.length_take]; rfl)) ?_; (with_reducible refine (num_Add.calls a0 a1 t134 _ A5.out).mono ?_); rintro e w' ⟨rfl, ⟨nd, rfl⟩⟩; refine ⟨_, rfl, ?_⟩) | ((with_reducible refine gate_callee (f := 16) rfl ?_); refine goesL_ (some 12) rfl rfl Try.func16 (by kernel_rfl) rfl #[.int .i64 a1, .int .i64 a0] rfl (by (try simp only [List.map_toArray, List.map_cons, List.map_nil]); first | done | rfl | (simp only [List.length_drop, List.length_take]; rfl)) ?_; (with_reducible refine (num_Add.calls a1 a0 t135 _ A6.out).mono ?_); rintro e w' ⟨rfl, ⟨nd, rfl⟩⟩; refine ⟨_, rfl, ?_⟩))
      go_meet
      case rel => exact ⟨_, (true), (by first | rfl | (simp; done) | (simp [*]; done)), H', ⟨by first | omega | exact Nat.le_refl _⟩, ⟨by repeat (first | (with_reducible first | exact HB.out | apply below_alloc | apply pw_below_drewN | apply below_drew1) | exact HB.out)⟩⟩
  case rest =>
    clear HC4
    try clear c1
    try clear p2
    try clear c4
    try clear c7
    try clear c7b0
    try clear c7b1
    try clear c10
    try clear c10b0
    try clear c10b1
    try clear c15
    try clear c15b0
    try clear c15b1
    try clear c16
    obtain ⟨kq, x48_3, rfl, HA, HJ3, HB⟩ := hcut
    cases kq with
    | zero => exact absurd HA.out (by simp [kindlinglaw01_NumRing.j0])
    | succ kj3 =>
      have H := HA.out
      clear HA
      simp only [kindlinglaw01_NumRing.j0] at H
      by_cases c20 : x48_3 = true
      · subst c20
        have H1 : (some false) = some r := by rw [if_pos rfl] at H; exact H
        clear H
        have H := H1
        clear H1
        obtain rfl := Option.some.inj H
        go_wp2
        go_ret
        exact ⟨by first | rfl | (simp [errW_none, errW_some] <;> rfl) | (simp [*, errW_none, errW_some] <;> rfl), by repeat (first | (with_reducible first | exact HB.out | apply below_alloc | apply pw_below_drewN | apply below_drew1) | exact HB.out)⟩
      · replace c20 := Bool.eq_false_iff.mpr c20
        subst c20
        have H1 : ((num_Add.f a1 a2).bind fun t146 => ((num_Mul.f a0 t146).bind fun t147 => ((num_Mul.f a0 a1).bind fun t148 => ((num_Mul.f a0 a2).bind fun t149 => ((num_Add.f t148 t149).bind fun t150 => (if t147 = t150 then ((num_Add.f a0 a1).bind fun t151 => ((num_Sub.f t151 a1).bind fun t152 => ((num_Wrap.f a0).bind fun t153 => (if t152 = t153 then ((num_Neg.f a0).bind fun t154 => ((num_Add.f a0 t154).bind fun t155 => (if t155 = 0 then ((kindlinglaw01_known.f).bind fun t156 => (some t156)) else (some false)))) else (some false))))) else (some false))))))) = some r := by rw [if_neg (show ¬ (false = true) by decide)] at H; exact H
        clear H
        have H := H1
        clear H1
        replace H := Option.bind_eq_some_iff.mp H
        obtain ⟨t146, A210, H⟩ := H
        replace H : ((num_Mul.f a0 t146).bind fun t147 => ((num_Mul.f a0 a1).bind fun t148 => ((num_Mul.f a0 a2).bind fun t149 => ((num_Add.f t148 t149).bind fun t150 => (if t147 = t150 then ((num_Add.f a0 a1).bind fun t151 => ((num_Sub.f t151 a1).bind fun t152 => ((num_Wrap.f a0).bind fun t153 => (if t152 = t153 then ((num_Neg.f a0).bind fun t154 => ((num_Add.f a0 t154).bind fun t155 => (if t155 = 0 then ((kindlinglaw01_known.f).bind fun t156 => (some t156)) else (some false)))) else (some false))))) else (some false)))))) = some r := H
        have A21 := Aside0.mk A210
        clear A210
        replace H := Option.bind_eq_some_iff.mp H
        obtain ⟨t147, A220, H⟩ := H
        replace H : ((num_Mul.f a0 a1).bind fun t148 => ((num_Mul.f a0 a2).bind fun t149 => ((num_Add.f t148 t149).bind fun t150 => (if t147 = t150 then ((num_Add.f a0 a1).bind fun t151 => ((num_Sub.f t151 a1).bind fun t152 => ((num_Wrap.f a0).bind fun t153 => (if t152 = t153 then ((num_Neg.f a0).bind fun t154 => ((num_Add.f a0 t154).bind fun t155 => (if t155 = 0 then ((kindlinglaw01_known.f).bind fun t156 => (some t156)) else (some false)))) else (some false))))) else (some false))))) = some r := H
        have A22 := Aside0.mk A220
        clear A220
        replace H := Option.bind_eq_some_iff.mp H
        obtain ⟨t148, A230, H⟩ := H
        replace H : ((num_Mul.f a0 a2).bind fun t149 => ((num_Add.f t148 t149).bind fun t150 => (if t147 = t150 then ((num_Add.f a0 a1).bind fun t151 => ((num_Sub.f t151 a1).bind fun t152 => ((num_Wrap.f a0).bind fun t153 => (if t152 = t153 then ((num_Neg.f a0).bind fun t154 => ((num_Add.f a0 t154).bind fun t155 => (if t155 = 0 then ((kindlinglaw01_known.f).bind fun t156 => (some t156)) else (some false)))) else (some false))))) else (some false)))) = some r := H
        have A23 := Aside0.mk A230
        clear A230
        replace H := Option.bind_eq_some_iff.mp H
        obtain ⟨t149, A240, H⟩ := H
        replace H : ((num_Add.f t148 t149).bind fun t150 => (if t147 = t150 then ((num_Add.f a0 a1).bind fun t151 => ((num_Sub.f t151 a1).bind fun t152 => ((num_Wrap.f a0).bind fun t153 => (if t152 = t153 then ((num_Neg.f a0).bind fun t154 => ((num_Add.f a0 t154).bind fun t155 => (if t155 = 0 then ((kindlinglaw01_known.f).bind fun t156 => (some t156)) else (some false)))) else (some false))))) else (some false))) = some r := H
        have A24 := Aside0.mk A240
        clear A240
        replace H := Option.bind_eq_some_iff.mp H
        obtain ⟨t150, A250, H⟩ := H
        replace H : (if t147 = t150 then ((num_Add.f a0 a1).bind fun t151 => ((num_Sub.f t151 a1).bind fun t152 => ((num_Wrap.f a0).bind fun t153 => (if t152 = t153 then ((num_Neg.f a0).bind fun t154 => ((num_Add.f a0 t154).bind fun t155 => (if t155 = 0 then ((kindlinglaw01_known.f).bind fun t156 => (some t156)) else (some false)))) else (some false))))) else (some false)) = some r := H
        have A25 := Aside0.mk A250
        clear A250
        by_cases c26 : t147 = t150
        · rw [if_pos c26] at H
          have c26b0 : (t147 == t150) = true := beq_iff_eq.mpr c26
          have c26b1 : (t147 != t150) = false := bne_eq_false_iff_eq.mpr c26
          clear c26
          replace H := Option.bind_eq_some_iff.mp H
          obtain ⟨t151, A270, H⟩ := H
          replace H : ((num_Sub.f t151 a1).bind fun t152 => ((num_Wrap.f a0).bind fun t153 => (if t152 = t153 then ((num_Neg.f a0).bind fun t154 => ((num_Add.f a0 t154).bind fun t155 => (if t155 = 0 then ((kindlinglaw01_known.f).bind fun t156 => (some t156)) else (some false)))) else (some false)))) = some r := H
          have A27 := Aside0.mk A270
          clear A270
          replace H := Option.bind_eq_some_iff.mp H
          obtain ⟨t152, A280, H⟩ := H
          replace H : ((num_Wrap.f a0).bind fun t153 => (if t152 = t153 then ((num_Neg.f a0).bind fun t154 => ((num_Add.f a0 t154).bind fun t155 => (if t155 = 0 then ((kindlinglaw01_known.f).bind fun t156 => (some t156)) else (some false)))) else (some false))) = some r := H
          have A28 := Aside0.mk A280
          clear A280
          replace H := Option.bind_eq_some_iff.mp H
          obtain ⟨t153, A290, H⟩ := H
          replace H : (if t152 = t153 then ((num_Neg.f a0).bind fun t154 => ((num_Add.f a0 t154).bind fun t155 => (if t155 = 0 then ((kindlinglaw01_known.f).bind fun t156 => (some t156)) else (some false)))) else (some false)) = some r := H
          have A29 := Aside0.mk A290
          clear A290
          by_cases c30 : t152 = t153
          · rw [if_pos c30] at H
            have c30b0 : (t152 == t153) = true := beq_iff_eq.mpr c30
            have c30b1 : (t152 != t153) = false := bne_eq_false_iff_eq.mpr c30
            clear c30
            replace H := Option.bind_eq_some_iff.mp H
            obtain ⟨t154, A310, H⟩ := H
            replace H : ((num_Add.f a0 t154).bind fun t155 => (if t155 = 0 then ((kindlinglaw01_known.f).bind fun t156 => (some t156)) else (some false))) = some r := H
            have A31 := Aside0.mk A310
            clear A310
            replace H := Option.bind_eq_some_iff.mp H
            obtain ⟨t155, A320, H⟩ := H
            replace H : (if t155 = 0 then ((kindlinglaw01_known.f).bind fun t156 => (some t156)) else (some false)) = some r := H
            have A32 := Aside0.mk A320
            clear A320
            by_cases c33 : t155 = 0
            · rw [if_pos c33] at H
              have c33b0 : (t155 == 0) = true := beq_iff_eq.mpr c33
              have c33b1 : (t155 != 0) = false := bne_eq_false_iff_eq.mpr c33
              clear c33
              replace H := Option.bind_eq_some_iff.mp H
              obtain ⟨t156, A340, H⟩ := H
              replace H : (some t156) = some r := H
              have A34 := Aside0.mk A340
              clear A340
              obtain rfl := Option.some.inj H
              go_wp2_with (first | ((with_reducible refine gate_callee (f := 16) rfl ?_); refine goesL_ (some 52) rfl rfl Try.func16 (by kernel_rfl) rfl #[.int .i64 a1, .int .i64 a2] rfl (by (try simp only [List.map_toArray, List.map_cons, List.map_nil]); first | done | rfl | (simp only [List.length_drop, List.length_take]; rfl)) ?_; (with_reducible refine (num_Add.calls a1 a2 t146 _ A21.out).mono ?_); rintro e w' ⟨rfl, ⟨nd, rfl⟩⟩; refine ⟨_, rfl, ?_⟩) | ((with_reducible refine gate_callee (f := 17) rfl ?_); refine goesL_ (some 53) rfl rfl Try.func17 (by kernel_rfl) rfl #[.int .i64 a0, .int .i64 t146] rfl (by (try simp only [List.map_toArray, List.map_cons, List.map_nil]); first | done | rfl | (simp only [List.length_drop, List.length_take]; rfl)) ?_; (with_reducible refine (num_Mul.calls a0 t146 t147 _ A22.out).mono ?_); rintro e w' ⟨rfl, ⟨nd, rfl⟩⟩; refine ⟨_, rfl, ?_⟩) | ((with_reducible refine gate_callee (f := 17) rfl ?_); refine goesL_ (some 56) rfl rfl Try.func17 (by kernel_rfl) rfl #[.int .i64 a0, .int .i64 a1] rfl (by (try simp only [List.map_toArray, List.map_cons, List.map_nil]); first | done | rfl | (simp only [List.length_drop, List.length_take]; rfl)) ?_; (with_reducible refine (num_Mul.calls a0 a1 t148 _ A23.out).mono ?_); rintro e w' ⟨rfl, ⟨nd, rfl⟩⟩; refine ⟨_, rfl, ?_⟩) | ((with_reducible refine gate_callee (f := 17) rfl ?_); refine goesL_ (some 59) rfl rfl Try.func17 (by kernel_rfl) rfl #[.int .i64 a0, .int .i64 a2] rfl (by (try simp only [List.map_toArray, List.map_cons, List.map_nil]); first | done | rfl | (simp only [List.length_drop, List.length_take]; rfl)) ?_; (with_reducible refine (num_Mul.calls a0 a2 t149 _ A24.out).mono ?_); rintro e w' ⟨rfl, ⟨nd, rfl⟩⟩; refine ⟨_, rfl, ?_⟩) | ((with_reducible refine gate_callee (f := 16) rfl ?_); refine goesL_ (some 60) rfl rfl Try.func16 (by kernel_rfl) rfl #[.int .i64 t148, .int .i64 t149] rfl (by (try simp only [List.map_toArray, List.map_cons, List.map_nil]); first | done | rfl | (simp only [List.length_drop, List.length_take]; rfl)) ?_; (with_reducible refine (num_Add.calls t148 t149 t150 _ A25.out).mono ?_); rintro e w' ⟨rfl, ⟨nd, rfl⟩⟩; refine ⟨_, rfl, ?_⟩) | (go_at_call 16; (with_reducible refine (num_Add.calls a0 a1 t151 _ A27.out).mono ?_); rintro e w' ⟨rfl, ⟨nd, rfl⟩⟩) | (go_at_call 20; (with_reducible refine (num_Sub.calls t151 a1 t152 _ A28.out).mono ?_); rintro e w' ⟨rfl, ⟨nd, rfl⟩⟩) | (go_at_call 14; (with_reducible refine (num_Wrap.calls a0 t153 _ A29.out).mono ?_); rintro e w' ⟨rfl, ⟨nd, rfl⟩⟩) | (go_at_call 21; (with_reducible refine (num_Neg.calls a0 t154 _ A31.out).mono ?_); rintro e w' ⟨rfl, ⟨nd, rfl⟩⟩) | (go_at_call 16; (with_reducible refine (num_Add.calls a0 t154 t155 _ A32.out).mono ?_); rintro e w' ⟨rfl, ⟨nd, rfl⟩⟩) | (go_at_call 19; (with_reducible refine (kindlinglaw01_known.calls  t156 _ A34.out).mono ?_); rintro e w35 ⟨rfl, hb⟩; have n0_ := Aside0.mk (below_step (by repeat (first | (with_reducible first | exact HB.out | apply below_alloc | apply pw_below_drewN | apply below_drew1) | exact HB.out)) hb); clear HB; have HB := n0_; clear n0_; (try clear hb); (try clear hb2); (try clear hk); (try clear hi)))
              go_ret
              exact ⟨by first | rfl | (simp [errW_none, errW_some] <;> rfl) | (simp [*, errW_none, errW_some] <;> rfl), by repeat (first | (with_reducible first | exact HB.out | apply below_alloc | apply pw_below_drewN | apply below_drew1) | exact HB.out)⟩
            · rw [if_neg c33] at H
              have c33b0 : (t155 == 0) = false := beq_eq_false_iff_ne.mpr c33
              have c33b1 : (t155 != 0) = true := bne_iff_ne.mpr c33
              obtain rfl := Option.some.inj H
              go_wp2_with (first | ((with_reducible refine gate_callee (f := 16) rfl ?_); refine goesL_ (some 52) rfl rfl Try.func16 (by kernel_rfl) rfl #[.int .i64 a1, .int .i64 a2] rfl (by (try simp only [List.map_toArray, List.map_cons, List.map_nil]); first | done | rfl | (simp only [List.length_drop, List.length_take]; rfl)) ?_; (with_reducible refine (num_Add.calls a1 a2 t146 _ A21.out).mono ?_); rintro e w' ⟨rfl, ⟨nd, rfl⟩⟩; refine ⟨_, rfl, ?_⟩) | ((with_reducible refine gate_callee (f := 17) rfl ?_); refine goesL_ (some 53) rfl rfl Try.func17 (by kernel_rfl) rfl #[.int .i64 a0, .int .i64 t146] rfl (by (try simp only [List.map_toArray, List.map_cons, List.map_nil]); first | done | rfl | (simp only [List.length_drop, List.length_take]; rfl)) ?_; (with_reducible refine (num_Mul.calls a0 t146 t147 _ A22.out).mono ?_); rintro e w' ⟨rfl, ⟨nd, rfl⟩⟩; refine ⟨_, rfl, ?_⟩) | ((with_reducible refine gate_callee (f := 17) rfl ?_); refine goesL_ (some 56) rfl rfl Try.func17 (by kernel_rfl) rfl #[.int .i64 a0, .int .i64 a1] rfl (by (try simp only [List.map_toArray, List.map_cons, List.map_nil]); first | done | rfl | (simp only [List.length_drop, List.length_take]; rfl)) ?_; (with_reducible refine (num_Mul.calls a0 a1 t148 _ A23.out).mono ?_); rintro e w' ⟨rfl, ⟨nd, rfl⟩⟩; refine ⟨_, rfl, ?_⟩) | ((with_reducible refine gate_callee (f := 17) rfl ?_); refine goesL_ (some 59) rfl rfl Try.func17 (by kernel_rfl) rfl #[.int .i64 a0, .int .i64 a2] rfl (by (try simp only [List.map_toArray, List.map_cons, List.map_nil]); first | done | rfl | (simp only [List.length_drop, List.length_take]; rfl)) ?_; (with_reducible refine (num_Mul.calls a0 a2 t149 _ A24.out).mono ?_); rintro e w' ⟨rfl, ⟨nd, rfl⟩⟩; refine ⟨_, rfl, ?_⟩) | ((with_reducible refine gate_callee (f := 16) rfl ?_); refine goesL_ (some 60) rfl rfl Try.func16 (by kernel_rfl) rfl #[.int .i64 t148, .int .i64 t149] rfl (by (try simp only [List.map_toArray, List.map_cons, List.map_nil]); first | done | rfl | (simp only [List.length_drop, List.length_take]; rfl)) ?_; (with_reducible refine (num_Add.calls t148 t149 t150 _ A25.out).mono ?_); rintro e w' ⟨rfl, ⟨nd, rfl⟩⟩; refine ⟨_, rfl, ?_⟩) | (go_at_call 16; (with_reducible refine (num_Add.calls a0 a1 t151 _ A27.out).mono ?_); rintro e w' ⟨rfl, ⟨nd, rfl⟩⟩) | (go_at_call 20; (with_reducible refine (num_Sub.calls t151 a1 t152 _ A28.out).mono ?_); rintro e w' ⟨rfl, ⟨nd, rfl⟩⟩) | (go_at_call 14; (with_reducible refine (num_Wrap.calls a0 t153 _ A29.out).mono ?_); rintro e w' ⟨rfl, ⟨nd, rfl⟩⟩) | (go_at_call 21; (with_reducible refine (num_Neg.calls a0 t154 _ A31.out).mono ?_); rintro e w' ⟨rfl, ⟨nd, rfl⟩⟩) | (go_at_call 16; (with_reducible refine (num_Add.calls a0 t154 t155 _ A32.out).mono ?_); rintro e w' ⟨rfl, ⟨nd, rfl⟩⟩))
              go_ret
              exact ⟨by first | rfl | (simp [errW_none, errW_some] <;> rfl) | (simp [*, errW_none, errW_some] <;> rfl), by repeat (first | (with_reducible first | exact HB.out | apply below_alloc | apply pw_below_drewN | apply below_drew1) | exact HB.out)⟩
          · rw [if_neg c30] at H
            have c30b0 : (t152 == t153) = false := beq_eq_false_iff_ne.mpr c30
            have c30b1 : (t152 != t153) = true := bne_iff_ne.mpr c30
            obtain rfl := Option.some.inj H
            go_wp2_with (first | ((with_reducible refine gate_callee (f := 16) rfl ?_); refine goesL_ (some 52) rfl rfl Try.func16 (by kernel_rfl) rfl #[.int .i64 a1, .int .i64 a2] rfl (by (try simp only [List.map_toArray, List.map_cons, List.map_nil]); first | done | rfl | (simp only [List.length_drop, List.length_take]; rfl)) ?_; (with_reducible refine (num_Add.calls a1 a2 t146 _ A21.out).mono ?_); rintro e w' ⟨rfl, ⟨nd, rfl⟩⟩; refine ⟨_, rfl, ?_⟩) | ((with_reducible refine gate_callee (f := 17) rfl ?_); refine goesL_ (some 53) rfl rfl Try.func17 (by kernel_rfl) rfl #[.int .i64 a0, .int .i64 t146] rfl (by (try simp only [List.map_toArray, List.map_cons, List.map_nil]); first | done | rfl | (simp only [List.length_drop, List.length_take]; rfl)) ?_; (with_reducible refine (num_Mul.calls a0 t146 t147 _ A22.out).mono ?_); rintro e w' ⟨rfl, ⟨nd, rfl⟩⟩; refine ⟨_, rfl, ?_⟩) | ((with_reducible refine gate_callee (f := 17) rfl ?_); refine goesL_ (some 56) rfl rfl Try.func17 (by kernel_rfl) rfl #[.int .i64 a0, .int .i64 a1] rfl (by (try simp only [List.map_toArray, List.map_cons, List.map_nil]); first | done | rfl | (simp only [List.length_drop, List.length_take]; rfl)) ?_; (with_reducible refine (num_Mul.calls a0 a1 t148 _ A23.out).mono ?_); rintro e w' ⟨rfl, ⟨nd, rfl⟩⟩; refine ⟨_, rfl, ?_⟩) | ((with_reducible refine gate_callee (f := 17) rfl ?_); refine goesL_ (some 59) rfl rfl Try.func17 (by kernel_rfl) rfl #[.int .i64 a0, .int .i64 a2] rfl (by (try simp only [List.map_toArray, List.map_cons, List.map_nil]); first | done | rfl | (simp only [List.length_drop, List.length_take]; rfl)) ?_; (with_reducible refine (num_Mul.calls a0 a2 t149 _ A24.out).mono ?_); rintro e w' ⟨rfl, ⟨nd, rfl⟩⟩; refine ⟨_, rfl, ?_⟩) | ((with_reducible refine gate_callee (f := 16) rfl ?_); refine goesL_ (some 60) rfl rfl Try.func16 (by kernel_rfl) rfl #[.int .i64 t148, .int .i64 t149] rfl (by (try simp only [List.map_toArray, List.map_cons, List.map_nil]); first | done | rfl | (simp only [List.length_drop, List.length_take]; rfl)) ?_; (with_reducible refine (num_Add.calls t148 t149 t150 _ A25.out).mono ?_); rintro e w' ⟨rfl, ⟨nd, rfl⟩⟩; refine ⟨_, rfl, ?_⟩) | (go_at_call 16; (with_reducible refine (num_Add.calls a0 a1 t151 _ A27.out).mono ?_); rintro e w' ⟨rfl, ⟨nd, rfl⟩⟩) | (go_at_call 20; (with_reducible refine (num_Sub.calls t151 a1 t152 _ A28.out).mono ?_); rintro e w' ⟨rfl, ⟨nd, rfl⟩⟩) | (go_at_call 14; (with_reducible refine (num_Wrap.calls a0 t153 _ A29.out).mono ?_); rintro e w' ⟨rfl, ⟨nd, rfl⟩⟩))
            go_ret
            exact ⟨by first | rfl | (simp [errW_none, errW_some] <;> rfl) | (simp [*, errW_none, errW_some] <;> rfl), by repeat (first | (with_reducible first | exact HB.out | apply below_alloc | apply pw_below_drewN | apply below_drew1) | exact HB.out)⟩
        · rw [if_neg c26] at H
          have c26b0 : (t147 == t150) = false := beq_eq_false_iff_ne.mpr c26
          have c26b1 : (t147 != t150) = true := bne_iff_ne.mpr c26
          obtain rfl := Option.some.inj H
          go_wp2_with (first | ((with_reducible refine gate_callee (f := 16) rfl ?_); refine goesL_ (some 52) rfl rfl Try.func16 (by kernel_rfl) rfl #[.int .i64 a1, .int .i64 a2] rfl (by (try simp only [List.map_toArray, List.map_cons, List.map_nil]); first | done | rfl | (simp only [List.length_drop, List.length_take]; rfl)) ?_; (with_reducible refine (num_Add.calls a1 a2 t146 _ A21.out).mono ?_); rintro e w' ⟨rfl, ⟨nd, rfl⟩⟩; refine ⟨_, rfl, ?_⟩) | ((with_reducible refine gate_callee (f := 17) rfl ?_); refine goesL_ (some 53) rfl rfl Try.func17 (by kernel_rfl) rfl #[.int .i64 a0, .int .i64 t146] rfl (by (try simp only [List.map_toArray, List.map_cons, List.map_nil]); first | done | rfl | (simp only [List.length_drop, List.length_take]; rfl)) ?_; (with_reducible refine (num_Mul.calls a0 t146 t147 _ A22.out).mono ?_); rintro e w' ⟨rfl, ⟨nd, rfl⟩⟩; refine ⟨_, rfl, ?_⟩) | ((with_reducible refine gate_callee (f := 17) rfl ?_); refine goesL_ (some 56) rfl rfl Try.func17 (by kernel_rfl) rfl #[.int .i64 a0, .int .i64 a1] rfl (by (try simp only [List.map_toArray, List.map_cons, List.map_nil]); first | done | rfl | (simp only [List.length_drop, List.length_take]; rfl)) ?_; (with_reducible refine (num_Mul.calls a0 a1 t148 _ A23.out).mono ?_); rintro e w' ⟨rfl, ⟨nd, rfl⟩⟩; refine ⟨_, rfl, ?_⟩) | ((with_reducible refine gate_callee (f := 17) rfl ?_); refine goesL_ (some 59) rfl rfl Try.func17 (by kernel_rfl) rfl #[.int .i64 a0, .int .i64 a2] rfl (by (try simp only [List.map_toArray, List.map_cons, List.map_nil]); first | done | rfl | (simp only [List.length_drop, List.length_take]; rfl)) ?_; (with_reducible refine (num_Mul.calls a0 a2 t149 _ A24.out).mono ?_); rintro e w' ⟨rfl, ⟨nd, rfl⟩⟩; refine ⟨_, rfl, ?_⟩) | ((with_reducible refine gate_callee (f := 16) rfl ?_); refine goesL_ (some 60) rfl rfl Try.func16 (by kernel_rfl) rfl #[.int .i64 t148, .int .i64 t149] rfl (by (try simp only [List.map_toArray, List.map_cons, List.map_nil]); first | done | rfl | (simp only [List.length_drop, List.length_take]; rfl)) ?_; (with_reducible refine (num_Add.calls t148 t149 t150 _ A25.out).mono ?_); rintro e w' ⟨rfl, ⟨nd, rfl⟩⟩; refine ⟨_, rfl, ?_⟩))
          go_ret
          exact ⟨by first | rfl | (simp [errW_none, errW_some] <;> rfl) | (simp [*, errW_none, errW_some] <;> rfl), by repeat (first | (with_reducible first | exact HB.out | apply below_alloc | apply pw_below_drewN | apply below_drew1) | exact HB.out)⟩

/-- THE ONE PURE STATEMENT of kindlinglaw01_NumRing: yours. -/
def kindlinglaw01_NumRing.Pure : Prop := ∀ (a0 : Int) (a1 : Int) (a2 : Int), (Lit.int .i64 a0).wf = true → (Lit.int .i64 a1).wf = true → (Lit.int .i64 a2).wf = true → ∃ k, kindlinglaw01_NumRing.f k a0 a1 a2 = some true
theorem kindlinglaw01_NumRing.walk (P : kindlinglaw01_NumRing.Pure) (a0 : Int) (a1 : Int) (a2 : Int) (w : World) (w0 : (Lit.int .i64 a0).wf = true) (w1 : (Lit.int .i64 a1).wf = true) (w2 : (Lit.int .i64 a2).wf = true) :
    Calls Try.prog 4 #[.int .i64 a0, .int .i64 a1, .int .i64 a2] w fun e w' => e = .returned (.bool true) ∧ Below w.heap.size w w' := by
  obtain ⟨k, h⟩ := P a0 a1 a2 w0 w1 w2
  refine (kindlinglaw01_NumRing.calls k a0 a1 a2 true w h).mono ?_
  rintro e w' ⟨rfl, hd⟩
  exact ⟨rfl, hd⟩

/-! ### kindlingref01_Wrap: function 22 -/
def kindlingref01_Wrap.f (a0 : Int) : Option (Int) := if a0 ≥ 4611686018427387904 then (some (wrap64 ((wrap64 (a0 - 4611686018427387904)) - 4611686018427387904))) else (if a0 < (-4611686018427387904) then (some (wrap64 ((wrap64 (a0 + 4611686018427387904)) + 4611686018427387904))) else (some a0))
set_option maxHeartbeats 8000000 in
set_option maxRecDepth 100000 in
theorem kindlingref01_Wrap.calls (a0 : Int) (r : Int) (w : World) (h : kindlingref01_Wrap.f a0 = some r) :
    Calls Try.prog 22 #[.int .i64 a0] w fun e w' => e = .returned (.int .i64 r) ∧ Drawn0 w w' := by
  have H : (if a0 ≥ 4611686018427387904 then (some (wrap64 ((wrap64 (a0 - 4611686018427387904)) - 4611686018427387904))) else (if a0 < (-4611686018427387904) then (some (wrap64 ((wrap64 (a0 + 4611686018427387904)) + 4611686018427387904))) else (some a0))) = some r := h
  clear h
  by_cases c2 : a0 ≥ 4611686018427387904
  · rw [if_pos c2] at H
    have c2b0 : decide (4611686018427387904 ≤ a0) = true := decide_eq_true c2
    clear c2
    obtain rfl := Option.some.inj H
    go_enter Try.func22, Try.ntmps22
    go_wp2
    go_ret
    exact ⟨by first | rfl | (simp; done) | (simp [*]; done), by repeat (first | exact Drawn0.refl _ | apply Drawn0.step)⟩
  · rw [if_neg c2] at H
    have c2b0 : decide (4611686018427387904 ≤ a0) = false := decide_eq_false c2
    clear c2
    by_cases c3 : a0 < (-4611686018427387904)
    · rw [if_pos c3] at H
      have c3b0 : decide (a0 < (-4611686018427387904)) = true := decide_eq_true c3
      clear c3
      obtain rfl := Option.some.inj H
      go_enter Try.func22, Try.ntmps22
      go_wp2
      go_ret
      exact ⟨by first | rfl | (simp; done) | (simp [*]; done), by repeat (first | exact Drawn0.refl _ | apply Drawn0.step)⟩
    · rw [if_neg c3] at H
      have c3b0 : decide (a0 < (-4611686018427387904)) = false := decide_eq_false c3
      clear c3
      obtain rfl := Option.some.inj H
      go_enter Try.func22, Try.ntmps22
      go_wp2
      go_ret
      exact ⟨by first | rfl | (simp; done) | (simp [*]; done), by repeat (first | exact Drawn0.refl _ | apply Drawn0.step)⟩

/-! ### kindlingref01_Add: function 23 -/
def kindlingref01_Add.f (a0 : Int) (a1 : Int) : Option (Int) := (kindlingref01_Wrap.f a0).bind fun t157 => ((kindlingref01_Wrap.f a1).bind fun t158 => ((kindlingref01_Wrap.f (wrap64 (t157 + t158))).bind fun t159 => (some t159)))
set_option maxHeartbeats 8000000 in
set_option maxRecDepth 100000 in
theorem kindlingref01_Add.calls (a0 : Int) (a1 : Int) (r : Int) (w : World) (h : kindlingref01_Add.f a0 a1 = some r) :
    Calls Try.prog 23 #[.int .i64 a0, .int .i64 a1] w fun e w' => e = .returned (.int .i64 r) ∧ Drawn0 w w' := by
  have H : ((kindlingref01_Wrap.f a0).bind fun t157 => ((kindlingref01_Wrap.f a1).bind fun t158 => ((kindlingref01_Wrap.f (wrap64 (t157 + t158))).bind fun t159 => (some t159)))) = some r := h
  clear h
  replace H := Option.bind_eq_some_iff.mp H
  obtain ⟨t157, A30, H⟩ := H
  replace H : ((kindlingref01_Wrap.f a1).bind fun t158 => ((kindlingref01_Wrap.f (wrap64 (t157 + t158))).bind fun t159 => (some t159))) = some r := H
  have A3 := Aside0.mk A30
  clear A30
  replace H := Option.bind_eq_some_iff.mp H
  obtain ⟨t158, A40, H⟩ := H
  replace H : ((kindlingref01_Wrap.f (wrap64 (t157 + t158))).bind fun t159 => (some t159)) = some r := H
  have A4 := Aside0.mk A40
  clear A40
  replace H := Option.bind_eq_some_iff.mp H
  obtain ⟨t159, A50, H⟩ := H
  replace H : (some t159) = some r := H
  have A5 := Aside0.mk A50
  clear A50
  obtain rfl := Option.some.inj H
  go_enter Try.func23, Try.ntmps23
  go_wp2_with (first | ((with_reducible refine gate_callee (f := 22) rfl ?_); refine goesL_ (some 6) rfl rfl Try.func22 (by kernel_rfl) rfl #[.int .i64 a0] rfl (by (try simp only [List.map_toArray, List.map_cons, List.map_nil]); first | done | rfl | (simp only [List.length_drop, List.length_take]; rfl)) ?_; (with_reducible refine (kindlingref01_Wrap.calls a0 t157 _ A3.out).mono ?_); rintro e w' ⟨rfl, ⟨nd, rfl⟩⟩; refine ⟨_, rfl, ?_⟩) | ((with_reducible refine gate_callee (f := 22) rfl ?_); refine goesL_ (some 8) rfl rfl Try.func22 (by kernel_rfl) rfl #[.int .i64 a1] rfl (by (try simp only [List.map_toArray, List.map_cons, List.map_nil]); first | done | rfl | (simp only [List.length_drop, List.length_take]; rfl)) ?_; (with_reducible refine (kindlingref01_Wrap.calls a1 t158 _ A4.out).mono ?_); rintro e w' ⟨rfl, ⟨nd, rfl⟩⟩; refine ⟨_, rfl, ?_⟩) | ((with_reducible refine gate_callee (f := 22) rfl ?_); refine goesL_ (some 10) rfl rfl Try.func22 (by kernel_rfl) rfl #[.int .i64 (wrap64 (t157 + t158))] rfl (by (try simp only [List.map_toArray, List.map_cons, List.map_nil]); first | done | rfl | (simp only [List.length_drop, List.length_take]; rfl)) ?_; (with_reducible refine (kindlingref01_Wrap.calls (wrap64 (t157 + t158)) t159 _ A5.out).mono ?_); rintro e w' ⟨rfl, ⟨nd, rfl⟩⟩; refine ⟨_, rfl, ?_⟩))
  go_ret
  exact ⟨by first | rfl | (simp; done) | (simp [*]; done), by repeat (first | exact Drawn0.refl _ | apply Drawn0.step)⟩

/-! ### kindlingref01_Neg: function 26 -/
def kindlingref01_Neg.f (a0 : Int) : Option (Int) := (kindlingref01_Wrap.f a0).bind fun t160 => ((kindlingref01_Wrap.f (wrap64 (-t160))).bind fun t161 => (some t161))
set_option maxHeartbeats 8000000 in
set_option maxRecDepth 100000 in
theorem kindlingref01_Neg.calls (a0 : Int) (r : Int) (w : World) (h : kindlingref01_Neg.f a0 = some r) :
    Calls Try.prog 26 #[.int .i64 a0] w fun e w' => e = .returned (.int .i64 r) ∧ Drawn0 w w' := by
  have H : ((kindlingref01_Wrap.f a0).bind fun t160 => ((kindlingref01_Wrap.f (wrap64 (-t160))).bind fun t161 => (some t161))) = some r := h
  clear h
  replace H := Option.bind_eq_some_iff.mp H
  obtain ⟨t160, A20, H⟩ := H
  replace H : ((kindlingref01_Wrap.f (wrap64 (-t160))).bind fun t161 => (some t161)) = some r := H
  have A2 := Aside0.mk A20
  clear A20
  replace H := Option.bind_eq_some_iff.mp H
  obtain ⟨t161, A30, H⟩ := H
  replace H : (some t161) = some r := H
  have A3 := Aside0.mk A30
  clear A30
  obtain rfl := Option.some.inj H
  go_enter Try.func26, Try.ntmps26
  go_wp2_with (first | ((with_reducible refine gate_callee (f := 22) rfl ?_); refine goesL_ (some 4) rfl rfl Try.func22 (by kernel_rfl) rfl #[.int .i64 a0] rfl (by (try simp only [List.map_toArray, List.map_cons, List.map_nil]); first | done | rfl | (simp only [List.length_drop, List.length_take]; rfl)) ?_; (with_reducible refine (kindlingref01_Wrap.calls a0 t160 _ A2.out).mono ?_); rintro e w' ⟨rfl, ⟨nd, rfl⟩⟩; refine ⟨_, rfl, ?_⟩) | ((with_reducible refine gate_callee (f := 22) rfl ?_); refine goesL_ (some 6) rfl rfl Try.func22 (by kernel_rfl) rfl #[.int .i64 (wrap64 (-t160))] rfl (by (try simp only [List.map_toArray, List.map_cons, List.map_nil]); first | done | rfl | (simp only [List.length_drop, List.length_take]; rfl)) ?_; (with_reducible refine (kindlingref01_Wrap.calls (wrap64 (-t160)) t161 _ A3.out).mono ?_); rintro e w' ⟨rfl, ⟨nd, rfl⟩⟩; refine ⟨_, rfl, ?_⟩))
  go_ret
  exact ⟨by first | rfl | (simp; done) | (simp [*]; done), by repeat (first | exact Drawn0.refl _ | apply Drawn0.step)⟩

/-! ### kindlingref01_Sub: function 24 -/
def kindlingref01_Sub.f (a0 : Int) (a1 : Int) : Option (Int) := (kindlingref01_Neg.f a1).bind fun t162 => ((kindlingref01_Add.f a0 t162).bind fun t163 => (some t163))
set_option maxHeartbeats 8000000 in
set_option maxRecDepth 100000 in
theorem kindlingref01_Sub.calls (a0 : Int) (a1 : Int) (r : Int) (w : World) (h : kindlingref01_Sub.f a0 a1 = some r) :
    Calls Try.prog 24 #[.int .i64 a0, .int .i64 a1] w fun e w' => e = .returned (.int .i64 r) ∧ Drawn0 w w' := by
  have H : ((kindlingref01_Neg.f a1).bind fun t162 => ((kindlingref01_Add.f a0 t162).bind fun t163 => (some t163))) = some r := h
  clear h
  replace H := Option.bind_eq_some_iff.mp H
  obtain ⟨t162, A30, H⟩ := H
  replace H : ((kindlingref01_Add.f a0 t162).bind fun t163 => (some t163)) = some r := H
  have A3 := Aside0.mk A30
  clear A30
  replace H := Option.bind_eq_some_iff.mp H
  obtain ⟨t163, A40, H⟩ := H
  replace H : (some t163) = some r := H
  have A4 := Aside0.mk A40
  clear A40
  obtain rfl := Option.some.inj H
  go_enter Try.func24, Try.ntmps24
  go_wp2_with (first | ((with_reducible refine gate_callee (f := 26) rfl ?_); refine goesL_ (some 7) rfl rfl Try.func26 (by kernel_rfl) rfl #[.int .i64 a1] rfl (by (try simp only [List.map_toArray, List.map_cons, List.map_nil]); first | done | rfl | (simp only [List.length_drop, List.length_take]; rfl)) ?_; (with_reducible refine (kindlingref01_Neg.calls a1 t162 _ A3.out).mono ?_); rintro e w' ⟨rfl, ⟨nd, rfl⟩⟩; refine ⟨_, rfl, ?_⟩) | ((with_reducible refine gate_callee (f := 23) rfl ?_); refine goesL_ (some 8) rfl rfl Try.func23 (by kernel_rfl) rfl #[.int .i64 a0, .int .i64 t162] rfl (by (try simp only [List.map_toArray, List.map_cons, List.map_nil]); first | done | rfl | (simp only [List.length_drop, List.length_take]; rfl)) ?_; (with_reducible refine (kindlingref01_Add.calls a0 t162 t163 _ A4.out).mono ?_); rintro e w' ⟨rfl, ⟨nd, rfl⟩⟩; refine ⟨_, rfl, ?_⟩))
  go_ret
  exact ⟨by first | rfl | (simp; done) | (simp [*]; done), by repeat (first | exact Drawn0.refl _ | apply Drawn0.step)⟩

/-! ### kindlingref01_Mul: function 25 -/
def kindlingref01_Mul.l0 : Nat → Int → Int → Int → Int → Option (Int)
  | 0, _, _, _, _ => none
  | k + 1, x5, x6, x7, x8 => if x8 < 63 then (if 0 ≤ (IntKind.u64.wrap (x8)) then (if (Go.bits .and .i64 (shr .i64 x6 (IntKind.u64.wrap (x8))) 1) = 1 then ((kindlingref01_Add.f x7 x5).bind fun t166 => ((kindlingref01_Add.f x5 x5).bind fun t167 => (kindlingref01_Mul.l0 k t167 x6 t166 (wrap64 (x8 + 1))))) else ((kindlingref01_Add.f x5 x5).bind fun t168 => (kindlingref01_Mul.l0 k t168 x6 x7 (wrap64 (x8 + 1))))) else (none)) else (some x7)
def kindlingref01_Mul.f (k : Nat) (a0 : Int) (a1 : Int) : Option (Int) := (kindlingref01_Wrap.f a0).bind fun t164 => ((kindlingref01_Wrap.f a1).bind fun t165 => (kindlingref01_Mul.l0 k t164 t165 0 0))
theorem kindlingref01_Mul.mono_l : ∀ k, (∀ y0 y1 y2 y3, LeO (kindlingref01_Mul.l0 k y0 y1 y2 y3) (kindlingref01_Mul.l0 (k + 1) y0 y1 y2 y3))
  | 0 => fun _ _ _ _ r h => by simp [kindlingref01_Mul.l0] at h
  | k + 1 => by
    have ih0 := kindlingref01_Mul.mono_l k
    · intro y0 y1 y2 y3
      unfold kindlingref01_Mul.l0
      repeat' first
      | (with_reducible exact ih0 _ _ _ _)
      | (with_reducible exact LeO.refl _)
      | (with_reducible exact LeO.none _)
      | (with_reducible refine LeO.ite ?_ ?_)
      | (with_reducible refine LeO.bind ?_ (fun _ => ?_))
      | exact ih0 _ _ _ _
      | exact LeO.none _
      | refine LeO.ite ?_ ?_
      | refine LeO.bind ?_ (fun _ => ?_)
theorem kindlingref01_Mul.mono : ∀ a0 a1 k, LeO (kindlingref01_Mul.f k a0 a1) (kindlingref01_Mul.f (k + 1) a0 a1) := by
  intro a0 a1 k
  have ih0 := kindlingref01_Mul.mono_l k
  unfold kindlingref01_Mul.f
  repeat' first
      | (with_reducible exact ih0 _ _ _ _)
      | (with_reducible exact LeO.refl _)
      | (with_reducible exact LeO.none _)
      | (with_reducible refine LeO.ite ?_ ?_)
      | (with_reducible refine LeO.bind ?_ (fun _ => ?_))
      | exact ih0 _ _ _ _
      | exact LeO.none _
      | refine LeO.ite ?_ ?_
      | refine LeO.bind ?_ (fun _ => ?_)
set_option maxHeartbeats 8000000 in
set_option maxRecDepth 100000 in
theorem kindlingref01_Mul.calls (k : Nat) (a0 : Int) (a1 : Int) (r : Int) (w : World) (h : kindlingref01_Mul.f k a0 a1 = some r) :
    Calls Try.prog 25 #[.int .i64 a0, .int .i64 a1] w fun e w' => e = .returned (.int .i64 r) ∧ Drawn0 w w' := by
  have H : ((kindlingref01_Wrap.f a0).bind fun t164 => ((kindlingref01_Wrap.f a1).bind fun t165 => (kindlingref01_Mul.l0 k t164 t165 0 0))) = some r := h
  clear h
  replace H := Option.bind_eq_some_iff.mp H
  obtain ⟨t164, A30, H⟩ := H
  replace H : ((kindlingref01_Wrap.f a1).bind fun t165 => (kindlingref01_Mul.l0 k t164 t165 0 0)) = some r := H
  have A3 := Aside0.mk A30
  clear A30
  replace H := Option.bind_eq_some_iff.mp H
  obtain ⟨t165, A40, H⟩ := H
  replace H : (kindlingref01_Mul.l0 k t164 t165 0 0) = some r := H
  have A4 := Aside0.mk A40
  clear A40
  have H' := Aside0.mk H
  clear H
  go_enter Try.func25, Try.ntmps25
  go_wp2_with (first | ((with_reducible refine gate_callee (f := 22) rfl ?_); refine goesL_ (some 10) rfl rfl Try.func22 (by kernel_rfl) rfl #[.int .i64 a0] rfl (by (try simp only [List.map_toArray, List.map_cons, List.map_nil]); first | done | rfl | (simp only [List.length_drop, List.length_take]; rfl)) ?_; (with_reducible refine (kindlingref01_Wrap.calls a0 t164 _ A3.out).mono ?_); rintro e w' ⟨rfl, ⟨nd, rfl⟩⟩; refine ⟨_, rfl, ?_⟩) | ((with_reducible refine gate_callee (f := 22) rfl ?_); refine goesL_ (some 12) rfl rfl Try.func22 (by kernel_rfl) rfl #[.int .i64 a1] rfl (by (try simp only [List.map_toArray, List.map_cons, List.map_nil]); first | done | rfl | (simp only [List.length_drop, List.length_take]; rfl)) ?_; (with_reducible refine (kindlingref01_Wrap.calls a1 t165 _ A4.out).mono ?_); rintro e w' ⟨rfl, ⟨nd, rfl⟩⟩; refine ⟨_, rfl, ?_⟩))
  go_loopg [5, 7, 8] k (fun kq v5 v7 v8 w' => ∃ (x5_1 : Int) (x7_1 : Int) (x8_1 : Int), v5 = .int .i64 x5_1 ∧ v7 = .int .i64 x7_1 ∧ v8 = .int .i64 x8_1 ∧ Aside0 (kindlingref01_Mul.l0 kq x5_1 t165 x7_1 x8_1 = some r) ∧ Aside0 (kq ≤ k) ∧ Drawn0 w w')
  case atStart => exact ⟨(t164), (0), (0), (by first | rfl | (simp; done) | (simp [*]; done)), (by first | rfl | (simp; done) | (simp [*]; done)), (by first | rfl | (simp; done) | (simp [*]; done)), H', ⟨Nat.le_refl _⟩, by repeat (first | exact Drawn0.refl _ | apply Drawn0.step)⟩
  case round =>
    clear H'
    try clear c2
    try clear p2
    obtain ⟨x5_1, x7_1, x8_1, rfl, rfl, rfl, HA, HK1, ⟨m1, rfl⟩⟩ := hrel
    cases gk with
    | zero => exact absurd HA.out (by simp [kindlingref01_Mul.l0])
    | succ k1 =>
      have H := HA.out
      clear HA
      simp only [kindlingref01_Mul.l0] at H
      by_cases c5 : x8_1 < 63
      · rw [if_pos c5] at H
        have c5b0 : decide (x8_1 < 63) = true := decide_eq_true c5
        clear c5
        obtain ⟨ji6, hji6⟩ : ∃ j_ : Int, (IntKind.u64.wrap (x8_1)) = j_ := ⟨_, rfl⟩
        replace H : (if 0 ≤ (ji6) then (if (Go.bits .and .i64 (shr .i64 t165 (ji6)) 1) = 1 then ((kindlingref01_Add.f x7_1 x5_1).bind fun t166 => ((kindlingref01_Add.f x5_1 x5_1).bind fun t167 => (kindlingref01_Mul.l0 k1 t167 t165 t166 (wrap64 (x8_1 + 1))))) else ((kindlingref01_Add.f x5_1 x5_1).bind fun t168 => (kindlingref01_Mul.l0 k1 t168 t165 x7_1 (wrap64 (x8_1 + 1))))) else (none)) = some r := by first | (rw [hji6] at H; exact H) | (simp only [hji6] at H ⊢; exact H)
        by_cases c7 : 0 ≤ (ji6)
        · rw [if_pos c7] at H
          have c7b0 := eq_true c7
          have c7b1 : decide (0 ≤ (ji6)) = true := decide_eq_true c7
          clear c7
          obtain ⟨ji8, hji8⟩ : ∃ j_ : Int, (shr .i64 t165 (ji6)) = j_ := ⟨_, rfl⟩
          replace H : (if (Go.bits .and .i64 (ji8) 1) = 1 then ((kindlingref01_Add.f x7_1 x5_1).bind fun t166 => ((kindlingref01_Add.f x5_1 x5_1).bind fun t167 => (kindlingref01_Mul.l0 k1 t167 t165 t166 (wrap64 (x8_1 + 1))))) else ((kindlingref01_Add.f x5_1 x5_1).bind fun t168 => (kindlingref01_Mul.l0 k1 t168 t165 x7_1 (wrap64 (x8_1 + 1))))) = some r := by first | (rw [hji8] at H; exact H) | (simp only [hji8] at H ⊢; exact H)
          have hji8_ : (t165 / 2 ^ min (ji6).toNat 64) = ji8 := hji8
          have hji8z : (ji6) ≤ 64 → (t165 / 2 ^ (ji6).toNat) = ji8 := shr_small hji8
          by_cases c9 : (Go.bits .and .i64 (ji8) 1) = 1
          · rw [if_pos c9] at H
            have c9b0 : ((Go.bits .and .i64 (ji8) 1) == 1) = true := beq_iff_eq.mpr c9
            have c9b1 : ((Go.bits .and .i64 (ji8) 1) != 1) = false := bne_eq_false_iff_eq.mpr c9
            clear c9
            replace H := Option.bind_eq_some_iff.mp H
            obtain ⟨t166, A100, H⟩ := H
            replace H : ((kindlingref01_Add.f x5_1 x5_1).bind fun t167 => (kindlingref01_Mul.l0 k1 t167 t165 t166 (wrap64 (x8_1 + 1)))) = some r := H
            have A10 := Aside0.mk A100
            clear A100
            replace H := Option.bind_eq_some_iff.mp H
            obtain ⟨t167, A110, H⟩ := H
            replace H : (kindlingref01_Mul.l0 k1 t167 t165 t166 (wrap64 (x8_1 + 1))) = some r := H
            have A11 := Aside0.mk A110
            clear A110
            have H' := Aside0.mk H
            clear H
            go_wp2_with (first | ((with_reducible refine gate_callee (f := 23) rfl ?_); refine goesL_ (some 25) rfl rfl Try.func23 (by kernel_rfl) rfl #[.int .i64 x7_1, .int .i64 x5_1] rfl (by (try simp only [List.map_toArray, List.map_cons, List.map_nil]); first | done | rfl | (simp only [List.length_drop, List.length_take]; rfl)) ?_; (with_reducible refine (kindlingref01_Add.calls x7_1 x5_1 t166 _ A10.out).mono ?_); rintro e w' ⟨rfl, ⟨nd, rfl⟩⟩; refine ⟨_, rfl, ?_⟩) | ((with_reducible refine gate_callee (f := 23) rfl ?_); refine goesL_ (some 28) rfl rfl Try.func23 (by kernel_rfl) rfl #[.int .i64 x5_1, .int .i64 x5_1] rfl (by (try simp only [List.map_toArray, List.map_cons, List.map_nil]); first | done | rfl | (simp only [List.length_drop, List.length_take]; rfl)) ?_; (with_reducible refine (kindlingref01_Add.calls x5_1 x5_1 t167 _ A11.out).mono ?_); rintro e w' ⟨rfl, ⟨nd, rfl⟩⟩; refine ⟨_, rfl, ?_⟩))
            go_roundg k1
            case measure => have := HK1.out; omega
            case rel => exact ⟨(t167), (t166), (wrap64 (x8_1 + 1)), (by first | rfl | (simp; done) | (simp [*]; done)), (by first | rfl | (simp; done) | (simp [*]; done)), (by first | rfl | (simp; done) | (simp [*]; done)), H', ⟨by have := HK1.out; omega⟩, by repeat (first | exact Drawn0.refl _ | apply Drawn0.step)⟩
          · rw [if_neg c9] at H
            have c9b0 : ((Go.bits .and .i64 (ji8) 1) == 1) = false := beq_eq_false_iff_ne.mpr c9
            have c9b1 : ((Go.bits .and .i64 (ji8) 1) != 1) = true := bne_iff_ne.mpr c9
            replace H := Option.bind_eq_some_iff.mp H
            obtain ⟨t168, A120, H⟩ := H
            replace H : (kindlingref01_Mul.l0 k1 t168 t165 x7_1 (wrap64 (x8_1 + 1))) = some r := H
            have A12 := Aside0.mk A120
            clear A120
            have H' := Aside0.mk H
            clear H
            go_wp2_with (first | ((with_reducible refine gate_callee (f := 23) rfl ?_); refine goesL_ (some 28) rfl rfl Try.func23 (by kernel_rfl) rfl #[.int .i64 x5_1, .int .i64 x5_1] rfl (by (try simp only [List.map_toArray, List.map_cons, List.map_nil]); first | done | rfl | (simp only [List.length_drop, List.length_take]; rfl)) ?_; (with_reducible refine (kindlingref01_Add.calls x5_1 x5_1 t168 _ A12.out).mono ?_); rintro e w' ⟨rfl, ⟨nd, rfl⟩⟩; refine ⟨_, rfl, ?_⟩))
            go_roundg k1
            case measure => have := HK1.out; omega
            case rel => exact ⟨(t168), (x7_1), (wrap64 (x8_1 + 1)), (by first | rfl | (simp; done) | (simp [*]; done)), (by first | rfl | (simp; done) | (simp [*]; done)), (by first | rfl | (simp; done) | (simp [*]; done)), H', ⟨by have := HK1.out; omega⟩, by repeat (first | exact Drawn0.refl _ | apply Drawn0.step)⟩
        · rw [if_neg c7] at H
          exact absurd H (by simp)
      · rw [if_neg c5] at H
        have c5b0 : decide (x8_1 < 63) = false := decide_eq_false c5
        clear c5
        obtain rfl := Option.some.inj H
        go_wp2
        go_ret
        exact ⟨by first | rfl | (simp; done) | (simp [*]; done), by repeat (first | exact Drawn0.refl _ | apply Drawn0.step)⟩

/-! ### kindlinglaw01_NumAdds: function 5 -/
def kindlinglaw01_NumAdds.f (k : Nat) (a0 : Int) (a1 : Int) : Option (Bool) := (num_Wrap.f a0).bind fun t169 => ((kindlingref01_Wrap.f a0).bind fun t170 => (if t169 = t170 then ((num_Fit.f a0).bind fun t171 => ((kindlingref01_Wrap.f a0).bind fun t172 => (if (t171 == (t172 == a0)) = true then ((num_Add.f a0 a1).bind fun t173 => ((kindlingref01_Add.f a0 a1).bind fun t174 => (if t173 = t174 then ((num_Sub.f a0 a1).bind fun t175 => ((kindlingref01_Sub.f a0 a1).bind fun t176 => (if t175 = t176 then ((num_Mul.f a0 a1).bind fun t177 => ((kindlingref01_Mul.f k a0 a1).bind fun t178 => (if t177 = t178 then ((num_Neg.f a0).bind fun t179 => ((kindlingref01_Neg.f a0).bind fun t180 => (if t179 = t180 then ((kindlinglaw01_known.f).bind fun t181 => (some t181)) else (some false)))) else (some false)))) else (some false)))) else (some false)))) else (some false)))) else (some false)))
theorem kindlinglaw01_NumAdds.mono : ∀ a0 a1 k, LeO (kindlinglaw01_NumAdds.f k a0 a1) (kindlinglaw01_NumAdds.f (k + 1) a0 a1) := by
  intro a0 a1 k
  unfold kindlinglaw01_NumAdds.f
  repeat' first
      | (with_reducible exact kindlingref01_Mul.mono _ _ _)
      | (with_reducible exact LeO.refl _)
      | (with_reducible exact LeO.none _)
      | (with_reducible refine LeO.ite ?_ ?_)
      | (with_reducible refine LeO.bind ?_ (fun _ => ?_))
      | exact kindlingref01_Mul.mono _ _ _
      | exact LeO.none _
      | refine LeO.ite ?_ ?_
      | refine LeO.bind ?_ (fun _ => ?_)
set_option maxHeartbeats 8000000 in
set_option maxRecDepth 100000 in
theorem kindlinglaw01_NumAdds.calls (k : Nat) (a0 : Int) (a1 : Int) (r : Bool) (w : World) (h : kindlinglaw01_NumAdds.f k a0 a1 = some r) :
    Calls Try.prog 5 #[.int .i64 a0, .int .i64 a1] w fun e w' => e = .returned (.bool r) ∧ Below w.heap.size w w' := by
  have HB := Aside0.mk (Below.refl w.heap.size w)
  have H : ((num_Wrap.f a0).bind fun t169 => ((kindlingref01_Wrap.f a0).bind fun t170 => (if t169 = t170 then ((num_Fit.f a0).bind fun t171 => ((kindlingref01_Wrap.f a0).bind fun t172 => (if (t171 == (t172 == a0)) = true then ((num_Add.f a0 a1).bind fun t173 => ((kindlingref01_Add.f a0 a1).bind fun t174 => (if t173 = t174 then ((num_Sub.f a0 a1).bind fun t175 => ((kindlingref01_Sub.f a0 a1).bind fun t176 => (if t175 = t176 then ((num_Mul.f a0 a1).bind fun t177 => ((kindlingref01_Mul.f k a0 a1).bind fun t178 => (if t177 = t178 then ((num_Neg.f a0).bind fun t179 => ((kindlingref01_Neg.f a0).bind fun t180 => (if t179 = t180 then ((kindlinglaw01_known.f).bind fun t181 => (some t181)) else (some false)))) else (some false)))) else (some false)))) else (some false)))) else (some false)))) else (some false)))) = some r := h
  clear h
  replace H := Option.bind_eq_some_iff.mp H
  obtain ⟨t169, A30, H⟩ := H
  replace H : ((kindlingref01_Wrap.f a0).bind fun t170 => (if t169 = t170 then ((num_Fit.f a0).bind fun t171 => ((kindlingref01_Wrap.f a0).bind fun t172 => (if (t171 == (t172 == a0)) = true then ((num_Add.f a0 a1).bind fun t173 => ((kindlingref01_Add.f a0 a1).bind fun t174 => (if t173 = t174 then ((num_Sub.f a0 a1).bind fun t175 => ((kindlingref01_Sub.f a0 a1).bind fun t176 => (if t175 = t176 then ((num_Mul.f a0 a1).bind fun t177 => ((kindlingref01_Mul.f k a0 a1).bind fun t178 => (if t177 = t178 then ((num_Neg.f a0).bind fun t179 => ((kindlingref01_Neg.f a0).bind fun t180 => (if t179 = t180 then ((kindlinglaw01_known.f).bind fun t181 => (some t181)) else (some false)))) else (some false)))) else (some false)))) else (some false)))) else (some false)))) else (some false))) = some r := H
  have A3 := Aside0.mk A30
  clear A30
  replace H := Option.bind_eq_some_iff.mp H
  obtain ⟨t170, A40, H⟩ := H
  replace H : (if t169 = t170 then ((num_Fit.f a0).bind fun t171 => ((kindlingref01_Wrap.f a0).bind fun t172 => (if (t171 == (t172 == a0)) = true then ((num_Add.f a0 a1).bind fun t173 => ((kindlingref01_Add.f a0 a1).bind fun t174 => (if t173 = t174 then ((num_Sub.f a0 a1).bind fun t175 => ((kindlingref01_Sub.f a0 a1).bind fun t176 => (if t175 = t176 then ((num_Mul.f a0 a1).bind fun t177 => ((kindlingref01_Mul.f k a0 a1).bind fun t178 => (if t177 = t178 then ((num_Neg.f a0).bind fun t179 => ((kindlingref01_Neg.f a0).bind fun t180 => (if t179 = t180 then ((kindlinglaw01_known.f).bind fun t181 => (some t181)) else (some false)))) else (some false)))) else (some false)))) else (some false)))) else (some false)))) else (some false)) = some r := H
  have A4 := Aside0.mk A40
  clear A40
  by_cases c5 : t169 = t170
  · rw [if_pos c5] at H
    have c5b0 : (t169 == t170) = true := beq_iff_eq.mpr c5
    have c5b1 : (t169 != t170) = false := bne_eq_false_iff_eq.mpr c5
    clear c5
    replace H := Option.bind_eq_some_iff.mp H
    obtain ⟨t171, A60, H⟩ := H
    replace H : ((kindlingref01_Wrap.f a0).bind fun t172 => (if (t171 == (t172 == a0)) = true then ((num_Add.f a0 a1).bind fun t173 => ((kindlingref01_Add.f a0 a1).bind fun t174 => (if t173 = t174 then ((num_Sub.f a0 a1).bind fun t175 => ((kindlingref01_Sub.f a0 a1).bind fun t176 => (if t175 = t176 then ((num_Mul.f a0 a1).bind fun t177 => ((kindlingref01_Mul.f k a0 a1).bind fun t178 => (if t177 = t178 then ((num_Neg.f a0).bind fun t179 => ((kindlingref01_Neg.f a0).bind fun t180 => (if t179 = t180 then ((kindlinglaw01_known.f).bind fun t181 => (some t181)) else (some false)))) else (some false)))) else (some false)))) else (some false)))) else (some false))) = some r := H
    have A6 := Aside0.mk A60
    clear A60
    replace H := Option.bind_eq_some_iff.mp H
    obtain ⟨t172, A70, H⟩ := H
    have e_ : t170 = t172 := Option.some.inj (A4.out.symm.trans A70)
    subst e_
    replace H : (if (t171 == (t170 == a0)) = true then ((num_Add.f a0 a1).bind fun t173 => ((kindlingref01_Add.f a0 a1).bind fun t174 => (if t173 = t174 then ((num_Sub.f a0 a1).bind fun t175 => ((kindlingref01_Sub.f a0 a1).bind fun t176 => (if t175 = t176 then ((num_Mul.f a0 a1).bind fun t177 => ((kindlingref01_Mul.f k a0 a1).bind fun t178 => (if t177 = t178 then ((num_Neg.f a0).bind fun t179 => ((kindlingref01_Neg.f a0).bind fun t180 => (if t179 = t180 then ((kindlinglaw01_known.f).bind fun t181 => (some t181)) else (some false)))) else (some false)))) else (some false)))) else (some false)))) else (some false)) = some r := H
    have A7 := Aside0.mk A70
    clear A70
    by_cases c8 : (t171 == (t170 == a0)) = true
    · rw [if_pos c8] at H
      have c8b0 : (t171 == (t170 == a0)) = true := c8
      (try (have c8b1 : decide (t171 = (t170 == a0)) = true := by simpa using c8))
      (try (have c8b2 : (t171 == (t170 == a0)) = true := by simpa using c8))
      clear c8
      replace H := Option.bind_eq_some_iff.mp H
      obtain ⟨t173, A90, H⟩ := H
      replace H : ((kindlingref01_Add.f a0 a1).bind fun t174 => (if t173 = t174 then ((num_Sub.f a0 a1).bind fun t175 => ((kindlingref01_Sub.f a0 a1).bind fun t176 => (if t175 = t176 then ((num_Mul.f a0 a1).bind fun t177 => ((kindlingref01_Mul.f k a0 a1).bind fun t178 => (if t177 = t178 then ((num_Neg.f a0).bind fun t179 => ((kindlingref01_Neg.f a0).bind fun t180 => (if t179 = t180 then ((kindlinglaw01_known.f).bind fun t181 => (some t181)) else (some false)))) else (some false)))) else (some false)))) else (some false))) = some r := H
      have A9 := Aside0.mk A90
      clear A90
      replace H := Option.bind_eq_some_iff.mp H
      obtain ⟨t174, A100, H⟩ := H
      replace H : (if t173 = t174 then ((num_Sub.f a0 a1).bind fun t175 => ((kindlingref01_Sub.f a0 a1).bind fun t176 => (if t175 = t176 then ((num_Mul.f a0 a1).bind fun t177 => ((kindlingref01_Mul.f k a0 a1).bind fun t178 => (if t177 = t178 then ((num_Neg.f a0).bind fun t179 => ((kindlingref01_Neg.f a0).bind fun t180 => (if t179 = t180 then ((kindlinglaw01_known.f).bind fun t181 => (some t181)) else (some false)))) else (some false)))) else (some false)))) else (some false)) = some r := H
      have A10 := Aside0.mk A100
      clear A100
      by_cases c11 : t173 = t174
      · rw [if_pos c11] at H
        have c11b0 : (t173 == t174) = true := beq_iff_eq.mpr c11
        have c11b1 : (t173 != t174) = false := bne_eq_false_iff_eq.mpr c11
        clear c11
        replace H := Option.bind_eq_some_iff.mp H
        obtain ⟨t175, A120, H⟩ := H
        replace H : ((kindlingref01_Sub.f a0 a1).bind fun t176 => (if t175 = t176 then ((num_Mul.f a0 a1).bind fun t177 => ((kindlingref01_Mul.f k a0 a1).bind fun t178 => (if t177 = t178 then ((num_Neg.f a0).bind fun t179 => ((kindlingref01_Neg.f a0).bind fun t180 => (if t179 = t180 then ((kindlinglaw01_known.f).bind fun t181 => (some t181)) else (some false)))) else (some false)))) else (some false))) = some r := H
        have A12 := Aside0.mk A120
        clear A120
        replace H := Option.bind_eq_some_iff.mp H
        obtain ⟨t176, A130, H⟩ := H
        replace H : (if t175 = t176 then ((num_Mul.f a0 a1).bind fun t177 => ((kindlingref01_Mul.f k a0 a1).bind fun t178 => (if t177 = t178 then ((num_Neg.f a0).bind fun t179 => ((kindlingref01_Neg.f a0).bind fun t180 => (if t179 = t180 then ((kindlinglaw01_known.f).bind fun t181 => (some t181)) else (some false)))) else (some false)))) else (some false)) = some r := H
        have A13 := Aside0.mk A130
        clear A130
        by_cases c14 : t175 = t176
        · rw [if_pos c14] at H
          have c14b0 : (t175 == t176) = true := beq_iff_eq.mpr c14
          have c14b1 : (t175 != t176) = false := bne_eq_false_iff_eq.mpr c14
          clear c14
          replace H := Option.bind_eq_some_iff.mp H
          obtain ⟨t177, A150, H⟩ := H
          replace H : ((kindlingref01_Mul.f k a0 a1).bind fun t178 => (if t177 = t178 then ((num_Neg.f a0).bind fun t179 => ((kindlingref01_Neg.f a0).bind fun t180 => (if t179 = t180 then ((kindlinglaw01_known.f).bind fun t181 => (some t181)) else (some false)))) else (some false))) = some r := H
          have A15 := Aside0.mk A150
          clear A150
          replace H := Option.bind_eq_some_iff.mp H
          obtain ⟨t178, A160, H⟩ := H
          replace H : (if t177 = t178 then ((num_Neg.f a0).bind fun t179 => ((kindlingref01_Neg.f a0).bind fun t180 => (if t179 = t180 then ((kindlinglaw01_known.f).bind fun t181 => (some t181)) else (some false)))) else (some false)) = some r := H
          have A16 := Aside0.mk A160
          clear A160
          by_cases c17 : t177 = t178
          · rw [if_pos c17] at H
            have c17b0 : (t177 == t178) = true := beq_iff_eq.mpr c17
            have c17b1 : (t177 != t178) = false := bne_eq_false_iff_eq.mpr c17
            clear c17
            replace H := Option.bind_eq_some_iff.mp H
            obtain ⟨t179, A180, H⟩ := H
            replace H : ((kindlingref01_Neg.f a0).bind fun t180 => (if t179 = t180 then ((kindlinglaw01_known.f).bind fun t181 => (some t181)) else (some false))) = some r := H
            have A18 := Aside0.mk A180
            clear A180
            replace H := Option.bind_eq_some_iff.mp H
            obtain ⟨t180, A190, H⟩ := H
            replace H : (if t179 = t180 then ((kindlinglaw01_known.f).bind fun t181 => (some t181)) else (some false)) = some r := H
            have A19 := Aside0.mk A190
            clear A190
            by_cases c20 : t179 = t180
            · rw [if_pos c20] at H
              have c20b0 : (t179 == t180) = true := beq_iff_eq.mpr c20
              have c20b1 : (t179 != t180) = false := bne_eq_false_iff_eq.mpr c20
              clear c20
              replace H := Option.bind_eq_some_iff.mp H
              obtain ⟨t181, A210, H⟩ := H
              replace H : (some t181) = some r := H
              have A21 := Aside0.mk A210
              clear A210
              obtain rfl := Option.some.inj H
              go_enter Try.func5, Try.ntmps5
              go_wp2_with (first | ((with_reducible refine gate_callee (f := 14) rfl ?_); refine goesL_ (some 6) rfl rfl Try.func14 (by kernel_rfl) rfl #[.int .i64 a0] rfl (by (try simp only [List.map_toArray, List.map_cons, List.map_nil]); first | done | rfl | (simp only [List.length_drop, List.length_take]; rfl)) ?_; (with_reducible refine (num_Wrap.calls a0 t169 _ A3.out).mono ?_); rintro e w' ⟨rfl, ⟨nd, rfl⟩⟩; refine ⟨_, rfl, ?_⟩) | ((with_reducible refine gate_callee (f := 22) rfl ?_); refine goesL_ (some 8) rfl rfl Try.func22 (by kernel_rfl) rfl #[.int .i64 a0] rfl (by (try simp only [List.map_toArray, List.map_cons, List.map_nil]); first | done | rfl | (simp only [List.length_drop, List.length_take]; rfl)) ?_; (with_reducible refine (kindlingref01_Wrap.calls a0 t170 _ A4.out).mono ?_); rintro e w' ⟨rfl, ⟨nd, rfl⟩⟩; refine ⟨_, rfl, ?_⟩) | (go_at_call 15; (with_reducible refine (num_Fit.calls a0 t171 _ A6.out).mono ?_); rintro e w' ⟨rfl, ⟨nd, rfl⟩⟩) | (go_at_call 22; (with_reducible refine (kindlingref01_Wrap.calls a0 t170 _ A7.out).mono ?_); rintro e w' ⟨rfl, ⟨nd, rfl⟩⟩) | (go_at_call 16; (with_reducible refine (num_Add.calls a0 a1 t173 _ A9.out).mono ?_); rintro e w' ⟨rfl, ⟨nd, rfl⟩⟩) | (go_at_call 23; (with_reducible refine (kindlingref01_Add.calls a0 a1 t174 _ A10.out).mono ?_); rintro e w' ⟨rfl, ⟨nd, rfl⟩⟩) | (go_at_call 20; (with_reducible refine (num_Sub.calls a0 a1 t175 _ A12.out).mono ?_); rintro e w' ⟨rfl, ⟨nd, rfl⟩⟩) | (go_at_call 24; (with_reducible refine (kindlingref01_Sub.calls a0 a1 t176 _ A13.out).mono ?_); rintro e w' ⟨rfl, ⟨nd, rfl⟩⟩) | (go_at_call 17; (with_reducible refine (num_Mul.calls a0 a1 t177 _ A15.out).mono ?_); rintro e w' ⟨rfl, ⟨nd, rfl⟩⟩) | (go_at_call 25; (with_reducible refine (kindlingref01_Mul.calls k a0 a1 t178 _ A16.out).mono ?_); rintro e w' ⟨rfl, ⟨nd, rfl⟩⟩) | (go_at_call 21; (with_reducible refine (num_Neg.calls a0 t179 _ A18.out).mono ?_); rintro e w' ⟨rfl, ⟨nd, rfl⟩⟩) | (go_at_call 26; (with_reducible refine (kindlingref01_Neg.calls a0 t180 _ A19.out).mono ?_); rintro e w' ⟨rfl, ⟨nd, rfl⟩⟩) | (go_at_call 19; (with_reducible refine (kindlinglaw01_known.calls  t181 _ A21.out).mono ?_); rintro e w22 ⟨rfl, hb⟩; have n0_ := Aside0.mk (below_step (by repeat (first | (with_reducible first | exact HB.out | apply below_alloc | apply pw_below_drewN | apply below_drew1) | exact HB.out)) hb); clear HB; have HB := n0_; clear n0_; (try clear hb); (try clear hb2); (try clear hk); (try clear hi)))
              go_ret
              exact ⟨by first | rfl | (simp [errW_none, errW_some] <;> rfl) | (simp [*, errW_none, errW_some] <;> rfl), by repeat (first | (with_reducible first | exact HB.out | apply below_alloc | apply pw_below_drewN | apply below_drew1) | exact HB.out)⟩
            · rw [if_neg c20] at H
              have c20b0 : (t179 == t180) = false := beq_eq_false_iff_ne.mpr c20
              have c20b1 : (t179 != t180) = true := bne_iff_ne.mpr c20
              obtain rfl := Option.some.inj H
              go_enter Try.func5, Try.ntmps5
              go_wp2_with (first | ((with_reducible refine gate_callee (f := 14) rfl ?_); refine goesL_ (some 6) rfl rfl Try.func14 (by kernel_rfl) rfl #[.int .i64 a0] rfl (by (try simp only [List.map_toArray, List.map_cons, List.map_nil]); first | done | rfl | (simp only [List.length_drop, List.length_take]; rfl)) ?_; (with_reducible refine (num_Wrap.calls a0 t169 _ A3.out).mono ?_); rintro e w' ⟨rfl, ⟨nd, rfl⟩⟩; refine ⟨_, rfl, ?_⟩) | ((with_reducible refine gate_callee (f := 22) rfl ?_); refine goesL_ (some 8) rfl rfl Try.func22 (by kernel_rfl) rfl #[.int .i64 a0] rfl (by (try simp only [List.map_toArray, List.map_cons, List.map_nil]); first | done | rfl | (simp only [List.length_drop, List.length_take]; rfl)) ?_; (with_reducible refine (kindlingref01_Wrap.calls a0 t170 _ A4.out).mono ?_); rintro e w' ⟨rfl, ⟨nd, rfl⟩⟩; refine ⟨_, rfl, ?_⟩) | (go_at_call 15; (with_reducible refine (num_Fit.calls a0 t171 _ A6.out).mono ?_); rintro e w' ⟨rfl, ⟨nd, rfl⟩⟩) | (go_at_call 22; (with_reducible refine (kindlingref01_Wrap.calls a0 t170 _ A7.out).mono ?_); rintro e w' ⟨rfl, ⟨nd, rfl⟩⟩) | (go_at_call 16; (with_reducible refine (num_Add.calls a0 a1 t173 _ A9.out).mono ?_); rintro e w' ⟨rfl, ⟨nd, rfl⟩⟩) | (go_at_call 23; (with_reducible refine (kindlingref01_Add.calls a0 a1 t174 _ A10.out).mono ?_); rintro e w' ⟨rfl, ⟨nd, rfl⟩⟩) | (go_at_call 20; (with_reducible refine (num_Sub.calls a0 a1 t175 _ A12.out).mono ?_); rintro e w' ⟨rfl, ⟨nd, rfl⟩⟩) | (go_at_call 24; (with_reducible refine (kindlingref01_Sub.calls a0 a1 t176 _ A13.out).mono ?_); rintro e w' ⟨rfl, ⟨nd, rfl⟩⟩) | (go_at_call 17; (with_reducible refine (num_Mul.calls a0 a1 t177 _ A15.out).mono ?_); rintro e w' ⟨rfl, ⟨nd, rfl⟩⟩) | (go_at_call 25; (with_reducible refine (kindlingref01_Mul.calls k a0 a1 t178 _ A16.out).mono ?_); rintro e w' ⟨rfl, ⟨nd, rfl⟩⟩) | (go_at_call 21; (with_reducible refine (num_Neg.calls a0 t179 _ A18.out).mono ?_); rintro e w' ⟨rfl, ⟨nd, rfl⟩⟩) | (go_at_call 26; (with_reducible refine (kindlingref01_Neg.calls a0 t180 _ A19.out).mono ?_); rintro e w' ⟨rfl, ⟨nd, rfl⟩⟩))
              go_ret
              exact ⟨by first | rfl | (simp [errW_none, errW_some] <;> rfl) | (simp [*, errW_none, errW_some] <;> rfl), by repeat (first | (with_reducible first | exact HB.out | apply below_alloc | apply pw_below_drewN | apply below_drew1) | exact HB.out)⟩
          · rw [if_neg c17] at H
            have c17b0 : (t177 == t178) = false := beq_eq_false_iff_ne.mpr c17
            have c17b1 : (t177 != t178) = true := bne_iff_ne.mpr c17
            obtain rfl := Option.some.inj H
            go_enter Try.func5, Try.ntmps5
            go_wp2_with (first | ((with_reducible refine gate_callee (f := 14) rfl ?_); refine goesL_ (some 6) rfl rfl Try.func14 (by kernel_rfl) rfl #[.int .i64 a0] rfl (by (try simp only [List.map_toArray, List.map_cons, List.map_nil]); first | done | rfl | (simp only [List.length_drop, List.length_take]; rfl)) ?_; (with_reducible refine (num_Wrap.calls a0 t169 _ A3.out).mono ?_); rintro e w' ⟨rfl, ⟨nd, rfl⟩⟩; refine ⟨_, rfl, ?_⟩) | ((with_reducible refine gate_callee (f := 22) rfl ?_); refine goesL_ (some 8) rfl rfl Try.func22 (by kernel_rfl) rfl #[.int .i64 a0] rfl (by (try simp only [List.map_toArray, List.map_cons, List.map_nil]); first | done | rfl | (simp only [List.length_drop, List.length_take]; rfl)) ?_; (with_reducible refine (kindlingref01_Wrap.calls a0 t170 _ A4.out).mono ?_); rintro e w' ⟨rfl, ⟨nd, rfl⟩⟩; refine ⟨_, rfl, ?_⟩) | (go_at_call 15; (with_reducible refine (num_Fit.calls a0 t171 _ A6.out).mono ?_); rintro e w' ⟨rfl, ⟨nd, rfl⟩⟩) | (go_at_call 22; (with_reducible refine (kindlingref01_Wrap.calls a0 t170 _ A7.out).mono ?_); rintro e w' ⟨rfl, ⟨nd, rfl⟩⟩) | (go_at_call 16; (with_reducible refine (num_Add.calls a0 a1 t173 _ A9.out).mono ?_); rintro e w' ⟨rfl, ⟨nd, rfl⟩⟩) | (go_at_call 23; (with_reducible refine (kindlingref01_Add.calls a0 a1 t174 _ A10.out).mono ?_); rintro e w' ⟨rfl, ⟨nd, rfl⟩⟩) | (go_at_call 20; (with_reducible refine (num_Sub.calls a0 a1 t175 _ A12.out).mono ?_); rintro e w' ⟨rfl, ⟨nd, rfl⟩⟩) | (go_at_call 24; (with_reducible refine (kindlingref01_Sub.calls a0 a1 t176 _ A13.out).mono ?_); rintro e w' ⟨rfl, ⟨nd, rfl⟩⟩) | (go_at_call 17; (with_reducible refine (num_Mul.calls a0 a1 t177 _ A15.out).mono ?_); rintro e w' ⟨rfl, ⟨nd, rfl⟩⟩) | (go_at_call 25; (with_reducible refine (kindlingref01_Mul.calls k a0 a1 t178 _ A16.out).mono ?_); rintro e w' ⟨rfl, ⟨nd, rfl⟩⟩))
            go_ret
            exact ⟨by first | rfl | (simp [errW_none, errW_some] <;> rfl) | (simp [*, errW_none, errW_some] <;> rfl), by repeat (first | (with_reducible first | exact HB.out | apply below_alloc | apply pw_below_drewN | apply below_drew1) | exact HB.out)⟩
        · rw [if_neg c14] at H
          have c14b0 : (t175 == t176) = false := beq_eq_false_iff_ne.mpr c14
          have c14b1 : (t175 != t176) = true := bne_iff_ne.mpr c14
          obtain rfl := Option.some.inj H
          go_enter Try.func5, Try.ntmps5
          go_wp2_with (first | ((with_reducible refine gate_callee (f := 14) rfl ?_); refine goesL_ (some 6) rfl rfl Try.func14 (by kernel_rfl) rfl #[.int .i64 a0] rfl (by (try simp only [List.map_toArray, List.map_cons, List.map_nil]); first | done | rfl | (simp only [List.length_drop, List.length_take]; rfl)) ?_; (with_reducible refine (num_Wrap.calls a0 t169 _ A3.out).mono ?_); rintro e w' ⟨rfl, ⟨nd, rfl⟩⟩; refine ⟨_, rfl, ?_⟩) | ((with_reducible refine gate_callee (f := 22) rfl ?_); refine goesL_ (some 8) rfl rfl Try.func22 (by kernel_rfl) rfl #[.int .i64 a0] rfl (by (try simp only [List.map_toArray, List.map_cons, List.map_nil]); first | done | rfl | (simp only [List.length_drop, List.length_take]; rfl)) ?_; (with_reducible refine (kindlingref01_Wrap.calls a0 t170 _ A4.out).mono ?_); rintro e w' ⟨rfl, ⟨nd, rfl⟩⟩; refine ⟨_, rfl, ?_⟩) | (go_at_call 15; (with_reducible refine (num_Fit.calls a0 t171 _ A6.out).mono ?_); rintro e w' ⟨rfl, ⟨nd, rfl⟩⟩) | (go_at_call 22; (with_reducible refine (kindlingref01_Wrap.calls a0 t170 _ A7.out).mono ?_); rintro e w' ⟨rfl, ⟨nd, rfl⟩⟩) | (go_at_call 16; (with_reducible refine (num_Add.calls a0 a1 t173 _ A9.out).mono ?_); rintro e w' ⟨rfl, ⟨nd, rfl⟩⟩) | (go_at_call 23; (with_reducible refine (kindlingref01_Add.calls a0 a1 t174 _ A10.out).mono ?_); rintro e w' ⟨rfl, ⟨nd, rfl⟩⟩) | (go_at_call 20; (with_reducible refine (num_Sub.calls a0 a1 t175 _ A12.out).mono ?_); rintro e w' ⟨rfl, ⟨nd, rfl⟩⟩) | (go_at_call 24; (with_reducible refine (kindlingref01_Sub.calls a0 a1 t176 _ A13.out).mono ?_); rintro e w' ⟨rfl, ⟨nd, rfl⟩⟩))
          go_ret
          exact ⟨by first | rfl | (simp [errW_none, errW_some] <;> rfl) | (simp [*, errW_none, errW_some] <;> rfl), by repeat (first | (with_reducible first | exact HB.out | apply below_alloc | apply pw_below_drewN | apply below_drew1) | exact HB.out)⟩
      · rw [if_neg c11] at H
        have c11b0 : (t173 == t174) = false := beq_eq_false_iff_ne.mpr c11
        have c11b1 : (t173 != t174) = true := bne_iff_ne.mpr c11
        obtain rfl := Option.some.inj H
        go_enter Try.func5, Try.ntmps5
        go_wp2_with (first | ((with_reducible refine gate_callee (f := 14) rfl ?_); refine goesL_ (some 6) rfl rfl Try.func14 (by kernel_rfl) rfl #[.int .i64 a0] rfl (by (try simp only [List.map_toArray, List.map_cons, List.map_nil]); first | done | rfl | (simp only [List.length_drop, List.length_take]; rfl)) ?_; (with_reducible refine (num_Wrap.calls a0 t169 _ A3.out).mono ?_); rintro e w' ⟨rfl, ⟨nd, rfl⟩⟩; refine ⟨_, rfl, ?_⟩) | ((with_reducible refine gate_callee (f := 22) rfl ?_); refine goesL_ (some 8) rfl rfl Try.func22 (by kernel_rfl) rfl #[.int .i64 a0] rfl (by (try simp only [List.map_toArray, List.map_cons, List.map_nil]); first | done | rfl | (simp only [List.length_drop, List.length_take]; rfl)) ?_; (with_reducible refine (kindlingref01_Wrap.calls a0 t170 _ A4.out).mono ?_); rintro e w' ⟨rfl, ⟨nd, rfl⟩⟩; refine ⟨_, rfl, ?_⟩) | (go_at_call 15; (with_reducible refine (num_Fit.calls a0 t171 _ A6.out).mono ?_); rintro e w' ⟨rfl, ⟨nd, rfl⟩⟩) | (go_at_call 22; (with_reducible refine (kindlingref01_Wrap.calls a0 t170 _ A7.out).mono ?_); rintro e w' ⟨rfl, ⟨nd, rfl⟩⟩) | (go_at_call 16; (with_reducible refine (num_Add.calls a0 a1 t173 _ A9.out).mono ?_); rintro e w' ⟨rfl, ⟨nd, rfl⟩⟩) | (go_at_call 23; (with_reducible refine (kindlingref01_Add.calls a0 a1 t174 _ A10.out).mono ?_); rintro e w' ⟨rfl, ⟨nd, rfl⟩⟩))
        go_ret
        exact ⟨by first | rfl | (simp [errW_none, errW_some] <;> rfl) | (simp [*, errW_none, errW_some] <;> rfl), by repeat (first | (with_reducible first | exact HB.out | apply below_alloc | apply pw_below_drewN | apply below_drew1) | exact HB.out)⟩
    · rw [if_neg c8] at H
      have c8b0 : (t171 == (t170 == a0)) = false := by simpa using c8
      (try (have c8b1 : decide (t171 = (t170 == a0)) = false := by simpa using c8))
      (try (have c8b2 : (t171 == (t170 == a0)) = false := by simpa using c8))
      (try (have c8b3 : ¬ (t171 = (t170 == a0)) := by simpa using c8))
      clear c8
      obtain rfl := Option.some.inj H
      go_enter Try.func5, Try.ntmps5
      go_wp2_with (first | ((with_reducible refine gate_callee (f := 14) rfl ?_); refine goesL_ (some 6) rfl rfl Try.func14 (by kernel_rfl) rfl #[.int .i64 a0] rfl (by (try simp only [List.map_toArray, List.map_cons, List.map_nil]); first | done | rfl | (simp only [List.length_drop, List.length_take]; rfl)) ?_; (with_reducible refine (num_Wrap.calls a0 t169 _ A3.out).mono ?_); rintro e w' ⟨rfl, ⟨nd, rfl⟩⟩; refine ⟨_, rfl, ?_⟩) | ((with_reducible refine gate_callee (f := 22) rfl ?_); refine goesL_ (some 8) rfl rfl Try.func22 (by kernel_rfl) rfl #[.int .i64 a0] rfl (by (try simp only [List.map_toArray, List.map_cons, List.map_nil]); first | done | rfl | (simp only [List.length_drop, List.length_take]; rfl)) ?_; (with_reducible refine (kindlingref01_Wrap.calls a0 t170 _ A4.out).mono ?_); rintro e w' ⟨rfl, ⟨nd, rfl⟩⟩; refine ⟨_, rfl, ?_⟩) | (go_at_call 15; (with_reducible refine (num_Fit.calls a0 t171 _ A6.out).mono ?_); rintro e w' ⟨rfl, ⟨nd, rfl⟩⟩) | (go_at_call 22; (with_reducible refine (kindlingref01_Wrap.calls a0 t170 _ A7.out).mono ?_); rintro e w' ⟨rfl, ⟨nd, rfl⟩⟩))
      go_ret
      exact ⟨by first | rfl | (simp [errW_none, errW_some] <;> rfl) | (simp [*, errW_none, errW_some] <;> rfl), by repeat (first | (with_reducible first | exact HB.out | apply below_alloc | apply pw_below_drewN | apply below_drew1) | exact HB.out)⟩
  · rw [if_neg c5] at H
    have c5b0 : (t169 == t170) = false := beq_eq_false_iff_ne.mpr c5
    have c5b1 : (t169 != t170) = true := bne_iff_ne.mpr c5
    obtain rfl := Option.some.inj H
    go_enter Try.func5, Try.ntmps5
    go_wp2_with (first | ((with_reducible refine gate_callee (f := 14) rfl ?_); refine goesL_ (some 6) rfl rfl Try.func14 (by kernel_rfl) rfl #[.int .i64 a0] rfl (by (try simp only [List.map_toArray, List.map_cons, List.map_nil]); first | done | rfl | (simp only [List.length_drop, List.length_take]; rfl)) ?_; (with_reducible refine (num_Wrap.calls a0 t169 _ A3.out).mono ?_); rintro e w' ⟨rfl, ⟨nd, rfl⟩⟩; refine ⟨_, rfl, ?_⟩) | ((with_reducible refine gate_callee (f := 22) rfl ?_); refine goesL_ (some 8) rfl rfl Try.func22 (by kernel_rfl) rfl #[.int .i64 a0] rfl (by (try simp only [List.map_toArray, List.map_cons, List.map_nil]); first | done | rfl | (simp only [List.length_drop, List.length_take]; rfl)) ?_; (with_reducible refine (kindlingref01_Wrap.calls a0 t170 _ A4.out).mono ?_); rintro e w' ⟨rfl, ⟨nd, rfl⟩⟩; refine ⟨_, rfl, ?_⟩))
    go_ret
    exact ⟨by first | rfl | (simp [errW_none, errW_some] <;> rfl) | (simp [*, errW_none, errW_some] <;> rfl), by repeat (first | (with_reducible first | exact HB.out | apply below_alloc | apply pw_below_drewN | apply below_drew1) | exact HB.out)⟩

/-- THE ONE PURE STATEMENT of kindlinglaw01_NumAdds: yours. -/
def kindlinglaw01_NumAdds.Pure : Prop := ∀ (a0 : Int) (a1 : Int), (Lit.int .i64 a0).wf = true → (Lit.int .i64 a1).wf = true → ∃ k, kindlinglaw01_NumAdds.f k a0 a1 = some true
theorem kindlinglaw01_NumAdds.walk (P : kindlinglaw01_NumAdds.Pure) (a0 : Int) (a1 : Int) (w : World) (w0 : (Lit.int .i64 a0).wf = true) (w1 : (Lit.int .i64 a1).wf = true) :
    Calls Try.prog 5 #[.int .i64 a0, .int .i64 a1] w fun e w' => e = .returned (.bool true) ∧ Below w.heap.size w w' := by
  obtain ⟨k, h⟩ := P a0 a1 w0 w1
  refine (kindlinglaw01_NumAdds.calls k a0 a1 true w h).mono ?_
  rintro e w' ⟨rfl, hd⟩
  exact ⟨rfl, hd⟩

/-! ### kindlingref01_Down: function 55 -/
def kindlingref01_Down.f (a0 : Int) (a1 : Int) : Option (Int × Int) := if a1 = 0 then (none) else (if (wrap64 (a0 - (wrap64 (a1 * (wrap64 (Int.tdiv a0 a1)))))) = 0 then (some (wrap64 (Int.tdiv a0 a1), wrap64 (a0 - (wrap64 (a1 * (wrap64 (Int.tdiv a0 a1))))))) else (if ((decide ((wrap64 (a0 - (wrap64 (a1 * (wrap64 (Int.tdiv a0 a1)))))) < 0)) != (decide (a1 < 0))) = true then (some (wrap64 ((wrap64 (Int.tdiv a0 a1)) - 1), wrap64 ((wrap64 (a0 - (wrap64 (a1 * (wrap64 (Int.tdiv a0 a1)))))) + a1))) else (some (wrap64 (Int.tdiv a0 a1), wrap64 (a0 - (wrap64 (a1 * (wrap64 (Int.tdiv a0 a1)))))))))
set_option maxHeartbeats 8000000 in
set_option maxRecDepth 100000 in
theorem kindlingref01_Down.calls (a0 : Int) (a1 : Int) (r1 : Int) (r2 : Int) (w : World) (h : kindlingref01_Down.f a0 a1 = some (r1, r2)) :
    Calls Try.prog 55 #[.int .i64 a0, .int .i64 a1] w fun e w' => e = .returned (.tuple #[.int .i64 r1, .int .i64 r2]) ∧ Drawn0 w w' := by
  have H : (if a1 = 0 then (none) else (if (wrap64 (a0 - (wrap64 (a1 * (wrap64 (Int.tdiv a0 a1)))))) = 0 then (some (wrap64 (Int.tdiv a0 a1), wrap64 (a0 - (wrap64 (a1 * (wrap64 (Int.tdiv a0 a1))))))) else (if ((decide ((wrap64 (a0 - (wrap64 (a1 * (wrap64 (Int.tdiv a0 a1)))))) < 0)) != (decide (a1 < 0))) = true then (some (wrap64 ((wrap64 (Int.tdiv a0 a1)) - 1), wrap64 ((wrap64 (a0 - (wrap64 (a1 * (wrap64 (Int.tdiv a0 a1)))))) + a1))) else (some (wrap64 (Int.tdiv a0 a1), wrap64 (a0 - (wrap64 (a1 * (wrap64 (Int.tdiv a0 a1)))))))))) = some (r1, r2) := h
  clear h
  by_cases c3 : a1 = 0
  · rw [if_pos c3] at H
    exact absurd H (by simp)
  · rw [if_neg c3] at H
    have c3b0 : (a1 == 0) = false := beq_eq_false_iff_ne.mpr c3
    have c3b1 : (a1 != 0) = true := bne_iff_ne.mpr c3
    by_cases c4 : (wrap64 (a0 - (wrap64 (a1 * (wrap64 (Int.tdiv a0 a1)))))) = 0
    · rw [if_pos c4] at H
      have c4b0 : ((wrap64 (a0 - (wrap64 (a1 * (wrap64 (Int.tdiv a0 a1)))))) == 0) = true := beq_iff_eq.mpr c4
      have c4b1 : ((wrap64 (a0 - (wrap64 (a1 * (wrap64 (Int.tdiv a0 a1)))))) != 0) = false := bne_eq_false_iff_eq.mpr c4
      clear c4
      simp only [Option.some.injEq, Prod.mk.injEq] at H
      obtain ⟨rfl, rfl⟩ := H
      go_enter Try.func55, Try.ntmps55
      go_wp2
      go_ret2
      exact ⟨by first | rfl | (simp; done) | (simp [*]; done), by repeat (first | exact Drawn0.refl _ | apply Drawn0.step)⟩
    · rw [if_neg c4] at H
      have c4b0 : ((wrap64 (a0 - (wrap64 (a1 * (wrap64 (Int.tdiv a0 a1)))))) == 0) = false := beq_eq_false_iff_ne.mpr c4
      have c4b1 : ((wrap64 (a0 - (wrap64 (a1 * (wrap64 (Int.tdiv a0 a1)))))) != 0) = true := bne_iff_ne.mpr c4
      by_cases c5 : ((decide ((wrap64 (a0 - (wrap64 (a1 * (wrap64 (Int.tdiv a0 a1)))))) < 0)) != (decide (a1 < 0))) = true
      · rw [if_pos c5] at H
        have c5b0 : ((decide ((wrap64 (a0 - (wrap64 (a1 * (wrap64 (Int.tdiv a0 a1)))))) < 0)) != (decide (a1 < 0))) = true := c5
        (try (have c5b1 : decide ((decide ((wrap64 (a0 - (wrap64 (a1 * (wrap64 (Int.tdiv a0 a1)))))) < 0)) = (decide (a1 < 0))) = false := by simpa using c5))
        (try (have c5b2 : ((decide ((wrap64 (a0 - (wrap64 (a1 * (wrap64 (Int.tdiv a0 a1)))))) < 0)) == (decide (a1 < 0))) = false := by simpa using c5))
        (try (have c5b3 : ¬ ((decide ((wrap64 (a0 - (wrap64 (a1 * (wrap64 (Int.tdiv a0 a1)))))) < 0)) = (decide (a1 < 0))) := by simpa using c5))
        clear c5
        simp only [Option.some.injEq, Prod.mk.injEq] at H
        obtain ⟨rfl, rfl⟩ := H
        go_enter Try.func55, Try.ntmps55
        go_wp2
        go_ret2
        exact ⟨by first | rfl | (simp; done) | (simp [*]; done), by repeat (first | exact Drawn0.refl _ | apply Drawn0.step)⟩
      · rw [if_neg c5] at H
        have c5b0 : ((decide ((wrap64 (a0 - (wrap64 (a1 * (wrap64 (Int.tdiv a0 a1)))))) < 0)) != (decide (a1 < 0))) = false := by simpa using c5
        (try (have c5b1 : decide ((decide ((wrap64 (a0 - (wrap64 (a1 * (wrap64 (Int.tdiv a0 a1)))))) < 0)) = (decide (a1 < 0))) = true := by simpa using c5))
        (try (have c5b2 : ((decide ((wrap64 (a0 - (wrap64 (a1 * (wrap64 (Int.tdiv a0 a1)))))) < 0)) == (decide (a1 < 0))) = true := by simpa using c5))
        clear c5
        simp only [Option.some.injEq, Prod.mk.injEq] at H
        obtain ⟨rfl, rfl⟩ := H
        go_enter Try.func55, Try.ntmps55
        go_wp2
        go_ret2
        exact ⟨by first | rfl | (simp; done) | (simp [*]; done), by repeat (first | exact Drawn0.refl _ | apply Drawn0.step)⟩

/-! ### kindlingref01_Div: function 28 -/
def kindlingref01_Div.f (a0 : Int) (a1 : Int) : Option (Int × Int) := (kindlingref01_Wrap.f a1).bind fun t182 => (if t182 = 0 then (some (0, 10)) else ((kindlingref01_Wrap.f a0).bind fun t183 => ((kindlingref01_Wrap.f a1).bind fun t184 => ((kindlingref01_Down.f t183 t184).bind fun bt185 => ((kindlingref01_Wrap.f bt185.1).bind fun t187 => (some (t187, 0)))))))
set_option maxHeartbeats 8000000 in
set_option maxRecDepth 100000 in
theorem kindlingref01_Div.calls (a0 : Int) (a1 : Int) (r1 : Int) (r2 : Int) (w : World) (h : kindlingref01_Div.f a0 a1 = some (r1, r2)) :
    Calls Try.prog 28 #[.int .i64 a0, .int .i64 a1] w fun e w' => e = .returned (.tuple #[.int .i64 r1, .int .i64 r2]) ∧ Drawn0 w w' := by
  have H : ((kindlingref01_Wrap.f a1).bind fun t182 => (if t182 = 0 then (some (0, 10)) else ((kindlingref01_Wrap.f a0).bind fun t183 => ((kindlingref01_Wrap.f a1).bind fun t184 => ((kindlingref01_Down.f t183 t184).bind fun bt185 => ((kindlingref01_Wrap.f bt185.1).bind fun t187 => (some (t187, 0)))))))) = some (r1, r2) := h
  clear h
  replace H := Option.bind_eq_some_iff.mp H
  obtain ⟨t182, A30, H⟩ := H
  replace H : (if t182 = 0 then (some (0, 10)) else ((kindlingref01_Wrap.f a0).bind fun t183 => ((kindlingref01_Wrap.f a1).bind fun t184 => ((kindlingref01_Down.f t183 t184).bind fun bt185 => ((kindlingref01_Wrap.f bt185.1).bind fun t187 => (some (t187, 0))))))) = some (r1, r2) := H
  have A3 := Aside0.mk A30
  clear A30
  by_cases c4 : t182 = 0
  · rw [if_pos c4] at H
    have c4b0 : (t182 == 0) = true := beq_iff_eq.mpr c4
    have c4b1 : (t182 != 0) = false := bne_eq_false_iff_eq.mpr c4
    clear c4
    simp only [Option.some.injEq, Prod.mk.injEq] at H
    obtain ⟨rfl, rfl⟩ := H
    go_enter Try.func28, Try.ntmps28
    go_wp2_with (first | ((with_reducible refine gate_callee (f := 22) rfl ?_); refine goesL_ (some 9) rfl rfl Try.func22 (by kernel_rfl) rfl #[.int .i64 a1] rfl (by (try simp only [List.map_toArray, List.map_cons, List.map_nil]); first | done | rfl | (simp only [List.length_drop, List.length_take]; rfl)) ?_; (with_reducible refine (kindlingref01_Wrap.calls a1 t182 _ A3.out).mono ?_); rintro e w' ⟨rfl, ⟨nd, rfl⟩⟩; refine ⟨_, rfl, ?_⟩))
    go_ret2
    exact ⟨by first | rfl | (simp; done) | (simp [*]; done), by repeat (first | exact Drawn0.refl _ | apply Drawn0.step)⟩
  · rw [if_neg c4] at H
    have c4b0 : (t182 == 0) = false := beq_eq_false_iff_ne.mpr c4
    have c4b1 : (t182 != 0) = true := bne_iff_ne.mpr c4
    replace H := Option.bind_eq_some_iff.mp H
    obtain ⟨t183, A50, H⟩ := H
    replace H : ((kindlingref01_Wrap.f a1).bind fun t184 => ((kindlingref01_Down.f t183 t184).bind fun bt185 => ((kindlingref01_Wrap.f bt185.1).bind fun t187 => (some (t187, 0))))) = some (r1, r2) := H
    have A5 := Aside0.mk A50
    clear A50
    replace H := Option.bind_eq_some_iff.mp H
    obtain ⟨t184, A60, H⟩ := H
    have e_ : t182 = t184 := Option.some.inj (A3.out.symm.trans A60)
    subst e_
    replace H : ((kindlingref01_Down.f t183 t182).bind fun bt185 => ((kindlingref01_Wrap.f bt185.1).bind fun t187 => (some (t187, 0)))) = some (r1, r2) := H
    have A6 := Aside0.mk A60
    clear A60
    replace H := Option.bind_eq_some_iff.mp H
    obtain ⟨⟨t185, t186⟩, A70, H⟩ := H
    replace H : ((kindlingref01_Wrap.f t185).bind fun t187 => (some (t187, 0))) = some (r1, r2) := H
    have A7 := Aside0.mk A70
    clear A70
    replace H := Option.bind_eq_some_iff.mp H
    obtain ⟨t187, A80, H⟩ := H
    replace H : (some (t187, 0)) = some (r1, r2) := H
    have A8 := Aside0.mk A80
    clear A80
    simp only [Option.some.injEq, Prod.mk.injEq] at H
    obtain ⟨rfl, rfl⟩ := H
    go_enter Try.func28, Try.ntmps28
    go_wp2_with (first | ((with_reducible refine gate_callee (f := 22) rfl ?_); refine goesL_ (some 9) rfl rfl Try.func22 (by kernel_rfl) rfl #[.int .i64 a1] rfl (by (try simp only [List.map_toArray, List.map_cons, List.map_nil]); first | done | rfl | (simp only [List.length_drop, List.length_take]; rfl)) ?_; (with_reducible refine (kindlingref01_Wrap.calls a1 t182 _ A3.out).mono ?_); rintro e w' ⟨rfl, ⟨nd, rfl⟩⟩; refine ⟨_, rfl, ?_⟩) | ((with_reducible refine gate_callee (f := 22) rfl ?_); refine goesL_ (some 13) rfl rfl Try.func22 (by kernel_rfl) rfl #[.int .i64 a0] rfl (by (try simp only [List.map_toArray, List.map_cons, List.map_nil]); first | done | rfl | (simp only [List.length_drop, List.length_take]; rfl)) ?_; (with_reducible refine (kindlingref01_Wrap.calls a0 t183 _ A5.out).mono ?_); rintro e w' ⟨rfl, ⟨nd, rfl⟩⟩; refine ⟨_, rfl, ?_⟩) | ((with_reducible refine gate_callee (f := 22) rfl ?_); refine goesL_ (some 15) rfl rfl Try.func22 (by kernel_rfl) rfl #[.int .i64 a1] rfl (by (try simp only [List.map_toArray, List.map_cons, List.map_nil]); first | done | rfl | (simp only [List.length_drop, List.length_take]; rfl)) ?_; (with_reducible refine (kindlingref01_Wrap.calls a1 t182 _ A6.out).mono ?_); rintro e w' ⟨rfl, ⟨nd, rfl⟩⟩; refine ⟨_, rfl, ?_⟩) | ((with_reducible refine gate_callee (f := 55) rfl ?_); refine goesL_ (some 16) rfl rfl Try.func55 (by kernel_rfl) rfl #[.int .i64 t183, .int .i64 t182] rfl (by (try simp only [List.map_toArray, List.map_cons, List.map_nil]); first | done | rfl | (simp only [List.length_drop, List.length_take]; rfl)) ?_; (with_reducible refine (kindlingref01_Down.calls t183 t182 t185 t186 _ A7.out).mono ?_); rintro e w' ⟨rfl, ⟨nd, rfl⟩⟩; refine ⟨_, rfl, ?_⟩) | ((with_reducible refine gate_callee (f := 22) rfl ?_); refine goesL_ (some 20) rfl rfl Try.func22 (by kernel_rfl) rfl #[.int .i64 t185] rfl (by (try simp only [List.map_toArray, List.map_cons, List.map_nil]); first | done | rfl | (simp only [List.length_drop, List.length_take]; rfl)) ?_; (with_reducible refine (kindlingref01_Wrap.calls t185 t187 _ A8.out).mono ?_); rintro e w' ⟨rfl, ⟨nd, rfl⟩⟩; refine ⟨_, rfl, ?_⟩))
    go_ret2
    exact ⟨by first | rfl | (simp; done) | (simp [*]; done), by repeat (first | exact Drawn0.refl _ | apply Drawn0.step)⟩

end Go.Proofs.Ytljbkonhailamaa.Pr
