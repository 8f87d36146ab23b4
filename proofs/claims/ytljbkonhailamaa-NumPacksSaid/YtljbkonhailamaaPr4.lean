-- PRINTED by print.py (a twelfth state) out of the translation. Not trusted: Lean checks it.
import Derived.Test.YtljbkonhailamaaPr0
import Derived.Test.YtljbkonhailamaaPr1
import Derived.Test.YtljbkonhailamaaPr3
namespace Go.Proofs.Ytljbkonhailamaa.Pr
open Go.RowKit Go.Proofs.YtljbkonhailamaaW.PrintWords Go.Proofs.YtljbkonhailamaaW.PrintLast Go.Proofs.YtljbkonhailamaaW.PrintMore
attribute [local go_sem] max2_int min2_int max_two min_two max_three min_three max_four min_four   -- for this text's walks alone
set_option linter.unusedVariables false
set_option linter.unusedSimpArgs false

/-! ### kindlingref01_ToPtr: function 41 -/
def kindlingref01_ToPtr.f (a0 : Int) : Option (Int) := (kindlingref01_IsPtr.f a0).bind fun t218 => (if t218 = true then (some (wrap64 (IntKind.u64.wrap (Int.tdiv a0 2)))) else (some 0))
set_option maxHeartbeats 8000000 in
set_option maxRecDepth 100000 in
theorem kindlingref01_ToPtr.calls (a0 : Int) (r : Int) (w : World) (h : kindlingref01_ToPtr.f a0 = some r) :
    Calls Try.prog 41 #[.int .u64 a0] w fun e w' => e = .returned (.int .i64 r) ∧ Drawn0 w w' := by
  have H : ((kindlingref01_IsPtr.f a0).bind fun t218 => (if t218 = true then (some (wrap64 (IntKind.u64.wrap (Int.tdiv a0 2)))) else (some 0))) = some r := h
  clear h
  replace H := Option.bind_eq_some_iff.mp H
  obtain ⟨t218, A20, H⟩ := H
  replace H : (if t218 = true then (some (wrap64 (IntKind.u64.wrap (Int.tdiv a0 2)))) else (some 0)) = some r := H
  have A2 := Aside0.mk A20
  clear A20
  by_cases c3 : t218 = true
  · subst c3
    have H1 : (some (wrap64 (IntKind.u64.wrap (Int.tdiv a0 2)))) = some r := by rw [if_pos rfl] at H; exact H
    clear H
    have H := H1
    clear H1
    obtain rfl := Option.some.inj H
    go_enter Try.func41, Try.ntmps41
    go_wp2_with (first | ((with_reducible refine gate_callee (f := 37) rfl ?_); refine goesL_ (some 4) rfl rfl Try.func37 (by kernel_rfl) rfl #[.int .u64 a0] rfl (by (try simp only [List.map_toArray, List.map_cons, List.map_nil]); first | done | rfl | (simp only [List.length_drop, List.length_take]; rfl)) ?_; (with_reducible refine (kindlingref01_IsPtr.calls a0 true _ A2.out).mono ?_); rintro e w' ⟨rfl, ⟨nd, rfl⟩⟩; refine ⟨_, rfl, ?_⟩))
    go_ret
    exact ⟨by first | rfl | (simp; done) | (simp [*]; done), by repeat (first | exact Drawn0.refl _ | apply Drawn0.step)⟩
  · replace c3 := Bool.eq_false_iff.mpr c3
    subst c3
    have H1 : (some 0) = some r := by rw [if_neg (show ¬ (false = true) by decide)] at H; exact H
    clear H
    have H := H1
    clear H1
    obtain rfl := Option.some.inj H
    go_enter Try.func41, Try.ntmps41
    go_wp2_with (first | ((with_reducible refine gate_callee (f := 37) rfl ?_); refine goesL_ (some 4) rfl rfl Try.func37 (by kernel_rfl) rfl #[.int .u64 a0] rfl (by (try simp only [List.map_toArray, List.map_cons, List.map_nil]); first | done | rfl | (simp only [List.length_drop, List.length_take]; rfl)) ?_; (with_reducible refine (kindlingref01_IsPtr.calls a0 false _ A2.out).mono ?_); rintro e w' ⟨rfl, ⟨nd, rfl⟩⟩; refine ⟨_, rfl, ?_⟩))
    go_ret
    exact ⟨by first | rfl | (simp; done) | (simp [*]; done), by repeat (first | exact Drawn0.refl _ | apply Drawn0.step)⟩

/-! ### kindlinglaw01_NumWords: function 8 -/
def kindlinglaw01_NumWords.f (a0 : Int) (a1 : Int) (a2 : Int) : Option (Bool) := (num_Int.f a0).bind fun t219 => ((kindlingref01_Int.f a0).bind fun t220 => (if t219 = t220 then ((num_Ptr.f a1).bind fun t221 => ((kindlingref01_Ptr.f a1).bind fun t222 => (if t221 = t222 then ((num_IsInt.f a2).bind fun t223 => ((kindlingref01_IsInt.f a2).bind fun t224 => (if (t223 == t224) = true then ((num_IsPtr.f a2).bind fun t225 => ((kindlingref01_IsPtr.f a2).bind fun t226 => (if (t225 == t226) = true then ((num_ToInt.f a2).bind fun t227 => ((kindlingref01_ToInt.f a2).bind fun t228 => (if t227 = t228 then ((num_ToPtr.f a2).bind fun t229 => ((kindlingref01_ToPtr.f a2).bind fun t230 => (if t229 = t230 then ((kindlinglaw01_known.f).bind fun t231 => (some t231)) else (some false)))) else (some false)))) else (some false)))) else (some false)))) else (some false)))) else (some false)))
set_option maxHeartbeats 8000000 in
set_option maxRecDepth 100000 in
theorem kindlinglaw01_NumWords.calls (a0 : Int) (a1 : Int) (a2 : Int) (r : Bool) (w : World) (h : kindlinglaw01_NumWords.f a0 a1 a2 = some r) :
    Calls Try.prog 8 #[.int .i64 a0, .int .i64 a1, .int .u64 a2] w fun e w' => e = .returned (.bool r) ∧ Below w.heap.size w w' := by
  have HB := Aside0.mk (Below.refl w.heap.size w)
  have H : ((num_Int.f a0).bind fun t219 => ((kindlingref01_Int.f a0).bind fun t220 => (if t219 = t220 then ((num_Ptr.f a1).bind fun t221 => ((kindlingref01_Ptr.f a1).bind fun t222 => (if t221 = t222 then ((num_IsInt.f a2).bind fun t223 => ((kindlingref01_IsInt.f a2).bind fun t224 => (if (t223 == t224) = true then ((num_IsPtr.f a2).bind fun t225 => ((kindlingref01_IsPtr.f a2).bind fun t226 => (if (t225 == t226) = true then ((num_ToInt.f a2).bind fun t227 => ((kindlingref01_ToInt.f a2).bind fun t228 => (if t227 = t228 then ((num_ToPtr.f a2).bind fun t229 => ((kindlingref01_ToPtr.f a2).bind fun t230 => (if t229 = t230 then ((kindlinglaw01_known.f).bind fun t231 => (some t231)) else (some false)))) else (some false)))) else (some false)))) else (some false)))) else (some false)))) else (some false)))) = some r := h
  clear h
  replace H := Option.bind_eq_some_iff.mp H
  obtain ⟨t219, A40, H⟩ := H
  replace H : ((kindlingref01_Int.f a0).bind fun t220 => (if t219 = t220 then ((num_Ptr.f a1).bind fun t221 => ((kindlingref01_Ptr.f a1).bind fun t222 => (if t221 = t222 then ((num_IsInt.f a2).bind fun t223 => ((kindlingref01_IsInt.f a2).bind fun t224 => (if (t223 == t224) = true then ((num_IsPtr.f a2).bind fun t225 => ((kindlingref01_IsPtr.f a2).bind fun t226 => (if (t225 == t226) = true then ((num_ToInt.f a2).bind fun t227 => ((kindlingref01_ToInt.f a2).bind fun t228 => (if t227 = t228 then ((num_ToPtr.f a2).bind fun t229 => ((kindlingref01_ToPtr.f a2).bind fun t230 => (if t229 = t230 then ((kindlinglaw01_known.f).bind fun t231 => (some t231)) else (some false)))) else (some false)))) else (some false)))) else (some false)))) else (some false)))) else (some false))) = some r := H
  have A4 := Aside0.mk A40
  clear A40
  replace H := Option.bind_eq_some_iff.mp H
  obtain ⟨t220, A50, H⟩ := H
  replace H : (if t219 = t220 then ((num_Ptr.f a1).bind fun t221 => ((kindlingref01_Ptr.f a1).bind fun t222 => (if t221 = t222 then ((num_IsInt.f a2).bind fun t223 => ((kindlingref01_IsInt.f a2).bind fun t224 => (if (t223 == t224) = true then ((num_IsPtr.f a2).bind fun t225 => ((kindlingref01_IsPtr.f a2).bind fun t226 => (if (t225 == t226) = true then ((num_ToInt.f a2).bind fun t227 => ((kindlingref01_ToInt.f a2).bind fun t228 => (if t227 = t228 then ((num_ToPtr.f a2).bind fun t229 => ((kindlingref01_ToPtr.f a2).bind fun t230 => (if t229 = t230 then ((kindlinglaw01_known.f).bind fun t231 => (some t231)) else (some false)))) else (some false)))) else (some false)))) else (some false)))) else (some false)))) else (some false)) = some r := H
  have A5 := Aside0.mk A50
  clear A50
  by_cases c6 : t219 = t220
  · rw [if_pos c6] at H
    have c6b0 : (t219 == t220) = true := beq_iff_eq.mpr c6
    have c6b1 : (t219 != t220) = false := bne_eq_false_iff_eq.mpr c6
    clear c6
    replace H := Option.bind_eq_some_iff.mp H
    obtain ⟨t221, A70, H⟩ := H
    replace H : ((kindlingref01_Ptr.f a1).bind fun t222 => (if t221 = t222 then ((num_IsInt.f a2).bind fun t223 => ((kindlingref01_IsInt.f a2).bind fun t224 => (if (t223 == t224) = true then ((num_IsPtr.f a2).bind fun t225 => ((kindlingref01_IsPtr.f a2).bind fun t226 => (if (t225 == t226) = true then ((num_ToInt.f a2).bind fun t227 => ((kindlingref01_ToInt.f a2).bind fun t228 => (if t227 = t228 then ((num_ToPtr.f a2).bind fun t229 => ((kindlingref01_ToPtr.f a2).bind fun t230 => (if t229 = t230 then ((kindlinglaw01_known.f).bind fun t231 => (some t231)) else (some false)))) else (some false)))) else (some false)))) else (some false)))) else (some false))) = some r := H
    have A7 := Aside0.mk A70
    clear A70
    replace H := Option.bind_eq_some_iff.mp H
    obtain ⟨t222, A80, H⟩ := H
    replace H : (if t221 = t222 then ((num_IsInt.f a2).bind fun t223 => ((kindlingref01_IsInt.f a2).bind fun t224 => (if (t223 == t224) = true then ((num_IsPtr.f a2).bind fun t225 => ((kindlingref01_IsPtr.f a2).bind fun t226 => (if (t225 == t226) = true then ((num_ToInt.f a2).bind fun t227 => ((kindlingref01_ToInt.f a2).bind fun t228 => (if t227 = t228 then ((num_ToPtr.f a2).bind fun t229 => ((kindlingref01_ToPtr.f a2).bind fun t230 => (if t229 = t230 then ((kindlinglaw01_known.f).bind fun t231 => (some t231)) else (some false)))) else (some false)))) else (some false)))) else (some false)))) else (some false)) = some r := H
    have A8 := Aside0.mk A80
    clear A80
    by_cases c9 : t221 = t222
    · rw [if_pos c9] at H
      have c9b0 : (t221 == t222) = true := beq_iff_eq.mpr c9
      have c9b1 : (t221 != t222) = false := bne_eq_false_iff_eq.mpr c9
      clear c9
      replace H := Option.bind_eq_some_iff.mp H
      obtain ⟨t223, A100, H⟩ := H
      replace H : ((kindlingref01_IsInt.f a2).bind fun t224 => (if (t223 == t224) = true then ((num_IsPtr.f a2).bind fun t225 => ((kindlingref01_IsPtr.f a2).bind fun t226 => (if (t225 == t226) = true then ((num_ToInt.f a2).bind fun t227 => ((kindlingref01_ToInt.f a2).bind fun t228 => (if t227 = t228 then ((num_ToPtr.f a2).bind fun t229 => ((kindlingref01_ToPtr.f a2).bind fun t230 => (if t229 = t230 then ((kindlinglaw01_known.f).bind fun t231 => (some t231)) else (some false)))) else (some false)))) else (some false)))) else (some false))) = some r := H
      have A10 := Aside0.mk A100
      clear A100
      replace H := Option.bind_eq_some_iff.mp H
      obtain ⟨t224, A110, H⟩ := H
      replace H : (if (t223 == t224) = true then ((num_IsPtr.f a2).bind fun t225 => ((kindlingref01_IsPtr.f a2).bind fun t226 => (if (t225 == t226) = true then ((num_ToInt.f a2).bind fun t227 => ((kindlingref01_ToInt.f a2).bind fun t228 => (if t227 = t228 then ((num_ToPtr.f a2).bind fun t229 => ((kindlingref01_ToPtr.f a2).bind fun t230 => (if t229 = t230 then ((kindlinglaw01_known.f).bind fun t231 => (some t231)) else (some false)))) else (some false)))) else (some false)))) else (some false)) = some r := H
      have A11 := Aside0.mk A110
      clear A110
      by_cases c12 : (t223 == t224) = true
      · rw [if_pos c12] at H
        have c12b0 : (t223 == t224) = true := c12
        (try (have c12b1 : decide (t223 = t224) = true := by simpa using c12))
        (try (have c12b2 : (t223 == t224) = true := by simpa using c12))
        clear c12
        replace H := Option.bind_eq_some_iff.mp H
        obtain ⟨t225, A130, H⟩ := H
        replace H : ((kindlingref01_IsPtr.f a2).bind fun t226 => (if (t225 == t226) = true then ((num_ToInt.f a2).bind fun t227 => ((kindlingref01_ToInt.f a2).bind fun t228 => (if t227 = t228 then ((num_ToPtr.f a2).bind fun t229 => ((kindlingref01_ToPtr.f a2).bind fun t230 => (if t229 = t230 then ((kindlinglaw01_known.f).bind fun t231 => (some t231)) else (some false)))) else (some false)))) else (some false))) = some r := H
        have A13 := Aside0.mk A130
        clear A130
        replace H := Option.bind_eq_some_iff.mp H
        obtain ⟨t226, A140, H⟩ := H
        replace H : (if (t225 == t226) = true then ((num_ToInt.f a2).bind fun t227 => ((kindlingref01_ToInt.f a2).bind fun t228 => (if t227 = t228 then ((num_ToPtr.f a2).bind fun t229 => ((kindlingref01_ToPtr.f a2).bind fun t230 => (if t229 = t230 then ((kindlinglaw01_known.f).bind fun t231 => (some t231)) else (some false)))) else (some false)))) else (some false)) = some r := H
        have A14 := Aside0.mk A140
        clear A140
        by_cases c15 : (t225 == t226) = true
        · rw [if_pos c15] at H
          have c15b0 : (t225 == t226) = true := c15
          (try (have c15b1 : decide (t225 = t226) = true := by simpa using c15))
          (try (have c15b2 : (t225 == t226) = true := by simpa using c15))
          clear c15
          replace H := Option.bind_eq_some_iff.mp H
          obtain ⟨t227, A160, H⟩ := H
          replace H : ((kindlingref01_ToInt.f a2).bind fun t228 => (if t227 = t228 then ((num_ToPtr.f a2).bind fun t229 => ((kindlingref01_ToPtr.f a2).bind fun t230 => (if t229 = t230 then ((kindlinglaw01_known.f).bind fun t231 => (some t231)) else (some false)))) else (some false))) = some r := H
          have A16 := Aside0.mk A160
          clear A160
          replace H := Option.bind_eq_some_iff.mp H
          obtain ⟨t228, A170, H⟩ := H
          replace H : (if t227 = t228 then ((num_ToPtr.f a2).bind fun t229 => ((kindlingref01_ToPtr.f a2).bind fun t230 => (if t229 = t230 then ((kindlinglaw01_known.f).bind fun t231 => (some t231)) else (some false)))) else (some false)) = some r := H
          have A17 := Aside0.mk A170
          clear A170
          by_cases c18 : t227 = t228
          · rw [if_pos c18] at H
            have c18b0 : (t227 == t228) = true := beq_iff_eq.mpr c18
            have c18b1 : (t227 != t228) = false := bne_eq_false_iff_eq.mpr c18
            clear c18
            replace H := Option.bind_eq_some_iff.mp H
            obtain ⟨t229, A190, H⟩ := H
            replace H : ((kindlingref01_ToPtr.f a2).bind fun t230 => (if t229 = t230 then ((kindlinglaw01_known.f).bind fun t231 => (some t231)) else (some false))) = some r := H
            have A19 := Aside0.mk A190
            clear A190
            replace H := Option.bind_eq_some_iff.mp H
            obtain ⟨t230, A200, H⟩ := H
            replace H : (if t229 = t230 then ((kindlinglaw01_known.f).bind fun t231 => (some t231)) else (some false)) = some r := H
            have A20 := Aside0.mk A200
            clear A200
            by_cases c21 : t229 = t230
            · rw [if_pos c21] at H
              have c21b0 : (t229 == t230) = true := beq_iff_eq.mpr c21
              have c21b1 : (t229 != t230) = false := bne_eq_false_iff_eq.mpr c21
              clear c21
              replace H := Option.bind_eq_some_iff.mp H
              obtain ⟨t231, A220, H⟩ := H
              replace H : (some t231) = some r := H
              have A22 := Aside0.mk A220
              clear A220
              obtain rfl := Option.some.inj H
              go_enter Try.func8, Try.ntmps8
              go_wp2_with (first | ((with_reducible refine gate_callee (f := 18) rfl ?_); refine goesL_ (some 8) rfl rfl Try.func18 (by kernel_rfl) rfl #[.int .i64 a0] rfl (by (try simp only [List.map_toArray, List.map_cons, List.map_nil]); first | done | rfl | (simp only [List.length_drop, List.length_take]; rfl)) ?_; (with_reducible refine (num_Int.calls a0 t219 _ A4.out).mono ?_); rintro e w' ⟨rfl, ⟨nd, rfl⟩⟩; refine ⟨_, rfl, ?_⟩) | ((with_reducible refine gate_callee (f := 31) rfl ?_); refine goesL_ (some 10) rfl rfl Try.func31 (by kernel_rfl) rfl #[.int .i64 a0] rfl (by (try simp only [List.map_toArray, List.map_cons, List.map_nil]); first | done | rfl | (simp only [List.length_drop, List.length_take]; rfl)) ?_; (with_reducible refine (kindlingref01_Int.calls a0 t220 _ A5.out).mono ?_); rintro e w' ⟨rfl, ⟨nd, rfl⟩⟩; refine ⟨_, rfl, ?_⟩) | (go_at_call 32; (with_reducible refine (num_Ptr.calls a1 t221 _ A7.out).mono ?_); rintro e w' ⟨rfl, ⟨nd, rfl⟩⟩) | (go_at_call 33; (with_reducible refine (kindlingref01_Ptr.calls a1 t222 _ A8.out).mono ?_); rintro e w' ⟨rfl, ⟨nd, rfl⟩⟩) | (go_at_call 34; (with_reducible refine (num_IsInt.calls a2 t223 _ A10.out).mono ?_); rintro e w' ⟨rfl, ⟨nd, rfl⟩⟩) | (go_at_call 35; (with_reducible refine (kindlingref01_IsInt.calls a2 t224 _ A11.out).mono ?_); rintro e w' ⟨rfl, ⟨nd, rfl⟩⟩) | (go_at_call 36; (with_reducible refine (num_IsPtr.calls a2 t225 _ A13.out).mono ?_); rintro e w' ⟨rfl, ⟨nd, rfl⟩⟩) | (go_at_call 37; (with_reducible refine (kindlingref01_IsPtr.calls a2 t226 _ A14.out).mono ?_); rintro e w' ⟨rfl, ⟨nd, rfl⟩⟩) | (go_at_call 38; (with_reducible refine (num_ToInt.calls a2 t227 _ A16.out).mono ?_); rintro e w' ⟨rfl, ⟨nd, rfl⟩⟩) | (go_at_call 39; (with_reducible refine (kindlingref01_ToInt.calls a2 t228 _ A17.out).mono ?_); rintro e w' ⟨rfl, ⟨nd, rfl⟩⟩) | (go_at_call 40; (with_reducible refine (num_ToPtr.calls a2 t229 _ A19.out).mono ?_); rintro e w' ⟨rfl, ⟨nd, rfl⟩⟩) | (go_at_call 41; (with_reducible refine (kindlingref01_ToPtr.calls a2 t230 _ A20.out).mono ?_); rintro e w' ⟨rfl, ⟨nd, rfl⟩⟩) | (go_at_call 19; (with_reducible refine (kindlinglaw01_known.calls  t231 _ A22.out).mono ?_); rintro e w23 ⟨rfl, hb⟩; have n0_ := Aside0.mk (below_step (by repeat (first | (with_reducible first | exact HB.out | apply below_alloc | apply pw_below_drewN | apply below_drew1) | exact HB.out)) hb); clear HB; have HB := n0_; clear n0_; (try clear hb); (try clear hb2); (try clear hk); (try clear hi)))
              go_ret
              exact ⟨by first | rfl | (simp [errW_none, errW_some] <;> rfl) | (simp [*, errW_none, errW_some] <;> rfl), by repeat (first | (with_reducible first | exact HB.out | apply below_alloc | apply pw_below_drewN | apply below_drew1) | exact HB.out)⟩
            · rw [if_neg c21] at H
              have c21b0 : (t229 == t230) = false := beq_eq_false_iff_ne.mpr c21
              have c21b1 : (t229 != t230) = true := bne_iff_ne.mpr c21
              obtain rfl := Option.some.inj H
              go_enter Try.func8, Try.ntmps8
              go_wp2_with (first | ((with_reducible refine gate_callee (f := 18) rfl ?_); refine goesL_ (some 8) rfl rfl Try.func18 (by kernel_rfl) rfl #[.int .i64 a0] rfl (by (try simp only [List.map_toArray, List.map_cons, List.map_nil]); first | done | rfl | (simp only [List.length_drop, List.length_take]; rfl)) ?_; (with_reducible refine (num_Int.calls a0 t219 _ A4.out).mono ?_); rintro e w' ⟨rfl, ⟨nd, rfl⟩⟩; refine ⟨_, rfl, ?_⟩) | ((with_reducible refine gate_callee (f := 31) rfl ?_); refine goesL_ (some 10) rfl rfl Try.func31 (by kernel_rfl) rfl #[.int .i64 a0] rfl (by (try simp only [List.map_toArray, List.map_cons, List.map_nil]); first | done | rfl | (simp only [List.length_drop, List.length_take]; rfl)) ?_; (with_reducible refine (kindlingref01_Int.calls a0 t220 _ A5.out).mono ?_); rintro e w' ⟨rfl, ⟨nd, rfl⟩⟩; refine ⟨_, rfl, ?_⟩) | (go_at_call 32; (with_reducible refine (num_Ptr.calls a1 t221 _ A7.out).mono ?_); rintro e w' ⟨rfl, ⟨nd, rfl⟩⟩) | (go_at_call 33; (with_reducible refine (kindlingref01_Ptr.calls a1 t222 _ A8.out).mono ?_); rintro e w' ⟨rfl, ⟨nd, rfl⟩⟩) | (go_at_call 34; (with_reducible refine (num_IsInt.calls a2 t223 _ A10.out).mono ?_); rintro e w' ⟨rfl, ⟨nd, rfl⟩⟩) | (go_at_call 35; (with_reducible refine (kindlingref01_IsInt.calls a2 t224 _ A11.out).mono ?_); rintro e w' ⟨rfl, ⟨nd, rfl⟩⟩) | (go_at_call 36; (with_reducible refine (num_IsPtr.calls a2 t225 _ A13.out).mono ?_); rintro e w' ⟨rfl, ⟨nd, rfl⟩⟩) | (go_at_call 37; (with_reducible refine (kindlingref01_IsPtr.calls a2 t226 _ A14.out).mono ?_); rintro e w' ⟨rfl, ⟨nd, rfl⟩⟩) | (go_at_call 38; (with_reducible refine (num_ToInt.calls a2 t227 _ A16.out).mono ?_); rintro e w' ⟨rfl, ⟨nd, rfl⟩⟩) | (go_at_call 39; (with_reducible refine (kindlingref01_ToInt.calls a2 t228 _ A17.out).mono ?_); rintro e w' ⟨rfl, ⟨nd, rfl⟩⟩) | (go_at_call 40; (with_reducible refine (num_ToPtr.calls a2 t229 _ A19.out).mono ?_); rintro e w' ⟨rfl, ⟨nd, rfl⟩⟩) | (go_at_call 41; (with_reducible refine (kindlingref01_ToPtr.calls a2 t230 _ A20.out).mono ?_); rintro e w' ⟨rfl, ⟨nd, rfl⟩⟩))
              go_ret
              exact ⟨by first | rfl | (simp [errW_none, errW_some] <;> rfl) | (simp [*, errW_none, errW_some] <;> rfl), by repeat (first | (with_reducible first | exact HB.out | apply below_alloc | apply pw_below_drewN | apply below_drew1) | exact HB.out)⟩
          · rw [if_neg c18] at H
            have c18b0 : (t227 == t228) = false := beq_eq_false_iff_ne.mpr c18
            have c18b1 : (t227 != t228) = true := bne_iff_ne.mpr c18
            obtain rfl := Option.some.inj H
            go_enter Try.func8, Try.ntmps8
            go_wp2_with (first | ((with_reducible refine gate_callee (f := 18) rfl ?_); refine goesL_ (some 8) rfl rfl Try.func18 (by kernel_rfl) rfl #[.int .i64 a0] rfl (by (try simp only [List.map_toArray, List.map_cons, List.map_nil]); first | done | rfl | (simp only [List.length_drop, List.length_take]; rfl)) ?_; (with_reducible refine (num_Int.calls a0 t219 _ A4.out).mono ?_); rintro e w' ⟨rfl, ⟨nd, rfl⟩⟩; refine ⟨_, rfl, ?_⟩) | ((with_reducible refine gate_callee (f := 31) rfl ?_); refine goesL_ (some 10) rfl rfl Try.func31 (by kernel_rfl) rfl #[.int .i64 a0] rfl (by (try simp only [List.map_toArray, List.map_cons, List.map_nil]); first | done | rfl | (simp only [List.length_drop, List.length_take]; rfl)) ?_; (with_reducible refine (kindlingref01_Int.calls a0 t220 _ A5.out).mono ?_); rintro e w' ⟨rfl, ⟨nd, rfl⟩⟩; refine ⟨_, rfl, ?_⟩) | (go_at_call 32; (with_reducible refine (num_Ptr.calls a1 t221 _ A7.out).mono ?_); rintro e w' ⟨rfl, ⟨nd, rfl⟩⟩) | (go_at_call 33; (with_reducible refine (kindlingref01_Ptr.calls a1 t222 _ A8.out).mono ?_); rintro e w' ⟨rfl, ⟨nd, rfl⟩⟩) | (go_at_call 34; (with_reducible refine (num_IsInt.calls a2 t223 _ A10.out).mono ?_); rintro e w' ⟨rfl, ⟨nd, rfl⟩⟩) | (go_at_call 35; (with_reducible refine (kindlingref01_IsInt.calls a2 t224 _ A11.out).mono ?_); rintro e w' ⟨rfl, ⟨nd, rfl⟩⟩) | (go_at_call 36; (with_reducible refine (num_IsPtr.calls a2 t225 _ A13.out).mono ?_); rintro e w' ⟨rfl, ⟨nd, rfl⟩⟩) | (go_at_call 37; (with_reducible refine (kindlingref01_IsPtr.calls a2 t226 _ A14.out).mono ?_); rintro e w' ⟨rfl, ⟨nd, rfl⟩⟩) | (go_at_call 38; (with_reducible refine (num_ToInt.calls a2 t227 _ A16.out).mono ?_); rintro e w' ⟨rfl, ⟨nd, rfl⟩⟩) | (go_at_call 39; (with_reducible refine (kindlingref01_ToInt.calls a2 t228 _ A17.out).mono ?_); rintro e w' ⟨rfl, ⟨nd, rfl⟩⟩))
            go_ret
            exact ⟨by first | rfl | (simp [errW_none, errW_some] <;> rfl) | (simp [*, errW_none, errW_some] <;> rfl), by repeat (first | (with_reducible first | exact HB.out | apply below_alloc | apply pw_below_drewN | apply below_drew1) | exact HB.out)⟩
        · rw [if_neg c15] at H
          have c15b0 : (t225 == t226) = false := by simpa using c15
          (try (have c15b1 : decide (t225 = t226) = false := by simpa using c15))
          (try (have c15b2 : (t225 == t226) = false := by simpa using c15))
          (try (have c15b3 : ¬ (t225 = t226) := by simpa using c15))
          clear c15
          obtain rfl := Option.some.inj H
          go_enter Try.func8, Try.ntmps8
          go_wp2_with (first | ((with_reducible refine gate_callee (f := 18) rfl ?_); refine goesL_ (some 8) rfl rfl Try.func18 (by kernel_rfl) rfl #[.int .i64 a0] rfl (by (try simp only [List.map_toArray, List.map_cons, List.map_nil]); first | done | rfl | (simp only [List.length_drop, List.length_take]; rfl)) ?_; (with_reducible refine (num_Int.calls a0 t219 _ A4.out).mono ?_); rintro e w' ⟨rfl, ⟨nd, rfl⟩⟩; refine ⟨_, rfl, ?_⟩) | ((with_reducible refine gate_callee (f := 31) rfl ?_); refine goesL_ (some 10) rfl rfl Try.func31 (by kernel_rfl) rfl #[.int .i64 a0] rfl (by (try simp only [List.map_toArray, List.map_cons, List.map_nil]); first | done | rfl | (simp only [List.length_drop, List.length_take]; rfl)) ?_; (with_reducible refine (kindlingref01_Int.calls a0 t220 _ A5.out).mono ?_); rintro e w' ⟨rfl, ⟨nd, rfl⟩⟩; refine ⟨_, rfl, ?_⟩) | (go_at_call 32; (with_reducible refine (num_Ptr.calls a1 t221 _ A7.out).mono ?_); rintro e w' ⟨rfl, ⟨nd, rfl⟩⟩) | (go_at_call 33; (with_reducible refine (kindlingref01_Ptr.calls a1 t222 _ A8.out).mono ?_); rintro e w' ⟨rfl, ⟨nd, rfl⟩⟩) | (go_at_call 34; (with_reducible refine (num_IsInt.calls a2 t223 _ A10.out).mono ?_); rintro e w' ⟨rfl, ⟨nd, rfl⟩⟩) | (go_at_call 35; (with_reducible refine (kindlingref01_IsInt.calls a2 t224 _ A11.out).mono ?_); rintro e w' ⟨rfl, ⟨nd, rfl⟩⟩) | (go_at_call 36; (with_reducible refine (num_IsPtr.calls a2 t225 _ A13.out).mono ?_); rintro e w' ⟨rfl, ⟨nd, rfl⟩⟩) | (go_at_call 37; (with_reducible refine (kindlingref01_IsPtr.calls a2 t226 _ A14.out).mono ?_); rintro e w' ⟨rfl, ⟨nd, rfl⟩⟩))
          go_ret
          exact ⟨by first | rfl | (simp [errW_none, errW_some] <;> rfl) | (simp [*, errW_none, errW_some] <;> rfl), by repeat (first | (with_reducible first | exact HB.out | apply below_alloc | apply pw_below_drewN | apply below_drew1) | exact HB.out)⟩
      · rw [if_neg c12] at H
        have c12b0 : (t223 == t224) = false := by simpa using c12
        (try (have c12b1 : decide (t223 = t224) = false := by simpa using c12))
        (try (have c12b2 : (t223 == t224) = false := by simpa using c12))
        (try (have c12b3 : ¬ (t223 = t224) := by simpa using c12))
        clear c12
        obtain rfl := Option.some.inj H
        go_enter Try.func8, Try.ntmps8
        go_wp2_with (first | ((with_reducible refine gate_callee (f := 18) rfl ?_); refine goesL_ (some 8) rfl rfl Try.func18 (by kernel_rfl) rfl #[.int .i64 a0] rfl (by (try simp only [List.map_toArray, List.map_cons, List.map_nil]); first | done | rfl | (simp only [List.length_drop, List.length_take]; rfl)) ?_; (with_reducible refine (num_Int.calls a0 t219 _ A4.out).mono ?_); rintro e w' ⟨rfl, ⟨nd, rfl⟩⟩; refine ⟨_, rfl, ?_⟩) | ((with_reducible refine gate_callee (f := 31) rfl ?_); refine goesL_ (some 10) rfl rfl Try.func31 (by kernel_rfl) rfl #[.int .i64 a0] rfl (by (try simp only [List.map_toArray, List.map_cons, List.map_nil]); first | done | rfl | (simp only [List.length_drop, List.length_take]; rfl)) ?_; (with_reducible refine (kindlingref01_Int.calls a0 t220 _ A5.out).mono ?_); rintro e w' ⟨rfl, ⟨nd, rfl⟩⟩; refine ⟨_, rfl, ?_⟩) | (go_at_call 32; (with_reducible refine (num_Ptr.calls a1 t221 _ A7.out).mono ?_); rintro e w' ⟨rfl, ⟨nd, rfl⟩⟩) | (go_at_call 33; (with_reducible refine (kindlingref01_Ptr.calls a1 t222 _ A8.out).mono ?_); rintro e w' ⟨rfl, ⟨nd, rfl⟩⟩) | (go_at_call 34; (with_reducible refine (num_IsInt.calls a2 t223 _ A10.out).mono ?_); rintro e w' ⟨rfl, ⟨nd, rfl⟩⟩) | (go_at_call 35; (with_reducible refine (kindlingref01_IsInt.calls a2 t224 _ A11.out).mono ?_); rintro e w' ⟨rfl, ⟨nd, rfl⟩⟩))
        go_ret
        exact ⟨by first | rfl | (simp [errW_none, errW_some] <;> rfl) | (simp [*, errW_none, errW_some] <;> rfl), by repeat (first | (with_reducible first | exact HB.out | apply below_alloc | apply pw_below_drewN | apply below_drew1) | exact HB.out)⟩
    · rw [if_neg c9] at H
      have c9b0 : (t221 == t222) = false := beq_eq_false_iff_ne.mpr c9
      have c9b1 : (t221 != t222) = true := bne_iff_ne.mpr c9
      obtain rfl := Option.some.inj H
      go_enter Try.func8, Try.ntmps8
      go_wp2_with (first | ((with_reducible refine gate_callee (f := 18) rfl ?_); refine goesL_ (some 8) rfl rfl Try.func18 (by kernel_rfl) rfl #[.int .i64 a0] rfl (by (try simp only [List.map_toArray, List.map_cons, List.map_nil]); first | done | rfl | (simp only [List.length_drop, List.length_take]; rfl)) ?_; (with_reducible refine (num_Int.calls a0 t219 _ A4.out).mono ?_); rintro e w' ⟨rfl, ⟨nd, rfl⟩⟩; refine ⟨_, rfl, ?_⟩) | ((with_reducible refine gate_callee (f := 31) rfl ?_); refine goesL_ (some 10) rfl rfl Try.func31 (by kernel_rfl) rfl #[.int .i64 a0] rfl (by (try simp only [List.map_toArray, List.map_cons, List.map_nil]); first | done | rfl | (simp only [List.length_drop, List.length_take]; rfl)) ?_; (with_reducible refine (kindlingref01_Int.calls a0 t220 _ A5.out).mono ?_); rintro e w' ⟨rfl, ⟨nd, rfl⟩⟩; refine ⟨_, rfl, ?_⟩) | (go_at_call 32; (with_reducible refine (num_Ptr.calls a1 t221 _ A7.out).mono ?_); rintro e w' ⟨rfl, ⟨nd, rfl⟩⟩) | (go_at_call 33; (with_reducible refine (kindlingref01_Ptr.calls a1 t222 _ A8.out).mono ?_); rintro e w' ⟨rfl, ⟨nd, rfl⟩⟩))
      go_ret
      exact ⟨by first | rfl | (simp [errW_none, errW_some] <;> rfl) | (simp [*, errW_none, errW_some] <;> rfl), by repeat (first | (with_reducible first | exact HB.out | apply below_alloc | apply pw_below_drewN | apply below_drew1) | exact HB.out)⟩
  · rw [if_neg c6] at H
    have c6b0 : (t219 == t220) = false := beq_eq_false_iff_ne.mpr c6
    have c6b1 : (t219 != t220) = true := bne_iff_ne.mpr c6
    obtain rfl := Option.some.inj H
    go_enter Try.func8, Try.ntmps8
    go_wp2_with (first | ((with_reducible refine gate_callee (f := 18) rfl ?_); refine goesL_ (some 8) rfl rfl Try.func18 (by kernel_rfl) rfl #[.int .i64 a0] rfl (by (try simp only [List.map_toArray, List.map_cons, List.map_nil]); first | done | rfl | (simp only [List.length_drop, List.length_take]; rfl)) ?_; (with_reducible refine (num_Int.calls a0 t219 _ A4.out).mono ?_); rintro e w' ⟨rfl, ⟨nd, rfl⟩⟩; refine ⟨_, rfl, ?_⟩) | ((with_reducible refine gate_callee (f := 31) rfl ?_); refine goesL_ (some 10) rfl rfl Try.func31 (by kernel_rfl) rfl #[.int .i64 a0] rfl (by (try simp only [List.map_toArray, List.map_cons, List.map_nil]); first | done | rfl | (simp only [List.length_drop, List.length_take]; rfl)) ?_; (with_reducible refine (kindlingref01_Int.calls a0 t220 _ A5.out).mono ?_); rintro e w' ⟨rfl, ⟨nd, rfl⟩⟩; refine ⟨_, rfl, ?_⟩))
    go_ret
    exact ⟨by first | rfl | (simp [errW_none, errW_some] <;> rfl) | (simp [*, errW_none, errW_some] <;> rfl), by repeat (first | (with_reducible first | exact HB.out | apply below_alloc | apply pw_below_drewN | apply below_drew1) | exact HB.out)⟩

/-- THE ONE PURE STATEMENT of kindlinglaw01_NumWords: yours. -/
def kindlinglaw01_NumWords.Pure : Prop := ∀ (a0 : Int) (a1 : Int) (a2 : Int), (Lit.int .i64 a0).wf = true → (Lit.int .i64 a1).wf = true → (Lit.int .u64 a2).wf = true → kindlinglaw01_NumWords.f a0 a1 a2 = some true
theorem kindlinglaw01_NumWords.walk (P : kindlinglaw01_NumWords.Pure) (a0 : Int) (a1 : Int) (a2 : Int) (w : World) (w0 : (Lit.int .i64 a0).wf = true) (w1 : (Lit.int .i64 a1).wf = true) (w2 : (Lit.int .u64 a2).wf = true) :
    Calls Try.prog 8 #[.int .i64 a0, .int .i64 a1, .int .u64 a2] w fun e w' => e = .returned (.bool true) ∧ Below w.heap.size w w' := by
  have h := P a0 a1 a2 w0 w1 w2
  refine (kindlinglaw01_NumWords.calls a0 a1 a2 true w h).mono ?_
  rintro e w' ⟨rfl, hd⟩
  exact ⟨rfl, hd⟩

/-! ### kindlinglaw01_NumApart: function 9 -/
mutual
def kindlinglaw01_NumApart.j0 : Nat → Int → Int → Bool → Option (Bool)
  | 0, _, _, _ => none
  | k + 1, x2, x3, x38 => if x38 = true then (some false) else (if x2 ≥ 1 then (if x2 ≤ 1099511627776 then ((num_Ptr.f x2).bind fun t243 => ((num_ToPtr.f t243).bind fun t244 => (if t244 = x2 then ((num_Ptr.f x2).bind fun t245 => ((num_IsPtr.f t245).bind fun t246 => (if t246 = true then ((num_Ptr.f x2).bind fun t247 => ((num_IsInt.f t247).bind fun t248 => (kindlinglaw01_NumApart.j1 k x3 t248))) else (kindlinglaw01_NumApart.j1 k x3 true)))) else (kindlinglaw01_NumApart.j1 k x3 true)))) else (kindlinglaw01_NumApart.j1 k x3 false)) else (kindlinglaw01_NumApart.j1 k x3 false))
def kindlinglaw01_NumApart.j1 : Nat → Int → Bool → Option (Bool)
  | 0, _, _ => none
  | k + 1, x3, x62 => if x62 = true then (some false) else ((num_IsInt.f x3).bind fun t249 => (if t249 = true then ((num_IsPtr.f x3).bind fun t250 => (if t250 = true then (some false) else ((num_IsInt.f x3).bind fun t251 => (if t251 = true then ((num_ToInt.f x3).bind fun t252 => ((num_Int.f t252).bind fun t253 => (if t253 = x3 then ((num_IsPtr.f x3).bind fun t254 => (if t254 = true then ((num_ToPtr.f x3).bind fun t255 => ((num_Ptr.f t255).bind fun t256 => (if t256 = x3 then ((kindlinglaw01_known.f).bind fun t257 => (some t257)) else (some false)))) else ((kindlinglaw01_known.f).bind fun t258 => (some t258)))) else (some false)))) else ((num_IsPtr.f x3).bind fun t259 => (if t259 = true then ((num_ToPtr.f x3).bind fun t260 => ((num_Ptr.f t260).bind fun t261 => (if t261 = x3 then ((kindlinglaw01_known.f).bind fun t262 => (some t262)) else (some false)))) else ((kindlinglaw01_known.f).bind fun t263 => (some t263)))))))) else ((num_IsInt.f x3).bind fun t264 => (if t264 = true then ((num_ToInt.f x3).bind fun t265 => ((num_Int.f t265).bind fun t266 => (if t266 = x3 then ((num_IsPtr.f x3).bind fun t267 => (if t267 = true then ((num_ToPtr.f x3).bind fun t268 => ((num_Ptr.f t268).bind fun t269 => (if t269 = x3 then ((kindlinglaw01_known.f).bind fun t270 => (some t270)) else (some false)))) else ((kindlinglaw01_known.f).bind fun t271 => (some t271)))) else (some false)))) else ((num_IsPtr.f x3).bind fun t272 => (if t272 = true then ((num_ToPtr.f x3).bind fun t273 => ((num_Ptr.f t273).bind fun t274 => (if t274 = x3 then ((kindlinglaw01_known.f).bind fun t275 => (some t275)) else (some false)))) else ((kindlinglaw01_known.f).bind fun t276 => (some t276))))))))
end
def kindlinglaw01_NumApart.f (k : Nat) (a0 : Int) (a1 : Int) (a2 : Int) (a3 : Int) : Option (Bool) := (num_Int.f a0).bind fun t232 => ((num_ToInt.f t232).bind fun t233 => ((num_Wrap.f a0).bind fun t234 => (if t233 = t234 then ((num_Int.f a0).bind fun t235 => ((num_Int.f a1).bind fun t236 => ((num_Wrap.f a0).bind fun t237 => ((num_Wrap.f a1).bind fun t238 => (if ((t235 == t236) != (t237 == t238)) = true then (kindlinglaw01_NumApart.j0 k a2 a3 true) else ((num_Int.f a0).bind fun t239 => ((num_IsInt.f t239).bind fun t240 => (if t240 = true then ((num_Int.f a0).bind fun t241 => ((num_IsPtr.f t241).bind fun t242 => (kindlinglaw01_NumApart.j0 k a2 a3 t242))) else (kindlinglaw01_NumApart.j0 k a2 a3 true))))))))) else (kindlinglaw01_NumApart.j0 k a2 a3 true))))
theorem kindlinglaw01_NumApart.mono_l : ∀ k, (∀ y0 y1 y2, LeO (kindlinglaw01_NumApart.j0 k y0 y1 y2) (kindlinglaw01_NumApart.j0 (k + 1) y0 y1 y2)) ∧ (∀ y0 y1, LeO (kindlinglaw01_NumApart.j1 k y0 y1) (kindlinglaw01_NumApart.j1 (k + 1) y0 y1))
  | 0 => ⟨fun _ _ _ r h => by simp [kindlinglaw01_NumApart.j0] at h, fun _ _ r h => by simp [kindlinglaw01_NumApart.j1] at h⟩
  | k + 1 => by
    obtain ⟨ih0, ih1⟩ := kindlinglaw01_NumApart.mono_l k
    refine ⟨?_, ?_⟩
    · intro y0 y1 y2
      unfold kindlinglaw01_NumApart.j0
      repeat' first
      | (with_reducible exact ih0 _ _ _)
      | (with_reducible exact ih1 _ _)
      | (with_reducible exact LeO.refl _)
      | (with_reducible exact LeO.none _)
      | (with_reducible refine LeO.ite ?_ ?_)
      | (with_reducible refine LeO.bind ?_ (fun _ => ?_))
      | exact ih0 _ _ _
      | exact ih1 _ _
      | exact LeO.none _
      | refine LeO.ite ?_ ?_
      | refine LeO.bind ?_ (fun _ => ?_)
    · intro y0 y1
      unfold kindlinglaw01_NumApart.j1
      repeat' first
      | (with_reducible exact ih0 _ _ _)
      | (with_reducible exact ih1 _ _)
      | (with_reducible exact LeO.refl _)
      | (with_reducible exact LeO.none _)
      | (with_reducible refine LeO.ite ?_ ?_)
      | (with_reducible refine LeO.bind ?_ (fun _ => ?_))
      | exact ih0 _ _ _
      | exact ih1 _ _
      | exact LeO.none _
      | refine LeO.ite ?_ ?_
      | refine LeO.bind ?_ (fun _ => ?_)
theorem kindlinglaw01_NumApart.mono : ∀ a0 a1 a2 a3 k, LeO (kindlinglaw01_NumApart.f k a0 a1 a2 a3) (kindlinglaw01_NumApart.f (k + 1) a0 a1 a2 a3) := by
  intro a0 a1 a2 a3 k
  obtain ⟨ih0, ih1⟩ := kindlinglaw01_NumApart.mono_l k
  unfold kindlinglaw01_NumApart.f
  repeat' first
      | (with_reducible exact ih0 _ _ _)
      | (with_reducible exact ih1 _ _)
      | (with_reducible exact LeO.refl _)
      | (with_reducible exact LeO.none _)
      | (with_reducible refine LeO.ite ?_ ?_)
      | (with_reducible refine LeO.bind ?_ (fun _ => ?_))
      | exact ih0 _ _ _
      | exact ih1 _ _
      | exact LeO.none _
      | refine LeO.ite ?_ ?_
      | refine LeO.bind ?_ (fun _ => ?_)
set_option maxHeartbeats 8000000 in
set_option maxRecDepth 100000 in
theorem kindlinglaw01_NumApart.calls (k : Nat) (a0 : Int) (a1 : Int) (a2 : Int) (a3 : Int) (r : Bool) (w : World) (h : kindlinglaw01_NumApart.f k a0 a1 a2 a3 = some r) :
    Calls Try.prog 9 #[.int .i64 a0, .int .i64 a1, .int .i64 a2, .int .u64 a3] w fun e w' => e = .returned (.bool r) ∧ Below w.heap.size w w' := by
  have HB := Aside0.mk (Below.refl w.heap.size w)
  have H : ((num_Int.f a0).bind fun t232 => ((num_ToInt.f t232).bind fun t233 => ((num_Wrap.f a0).bind fun t234 => (if t233 = t234 then ((num_Int.f a0).bind fun t235 => ((num_Int.f a1).bind fun t236 => ((num_Wrap.f a0).bind fun t237 => ((num_Wrap.f a1).bind fun t238 => (if ((t235 == t236) != (t237 == t238)) = true then (kindlinglaw01_NumApart.j0 k a2 a3 true) else ((num_Int.f a0).bind fun t239 => ((num_IsInt.f t239).bind fun t240 => (if t240 = true then ((num_Int.f a0).bind fun t241 => ((num_IsPtr.f t241).bind fun t242 => (kindlinglaw01_NumApart.j0 k a2 a3 t242))) else (kindlinglaw01_NumApart.j0 k a2 a3 true))))))))) else (kindlinglaw01_NumApart.j0 k a2 a3 true))))) = some r := h
  clear h
  have HC5 := Aside0.mk H
  clear H
  go_enter Try.func9, Try.ntmps9
  go_upto_region 1 with (fail)
  go_cut [38] (fun v38 wc => ∃ (kq : Nat) (x38_4 : Bool), v38 = .bool x38_4 ∧ Aside0 (kindlinglaw01_NumApart.j0 kq a2 a3 x38_4 = some r) ∧ Aside0 (kq ≤ k) ∧ Aside0 (Below w.heap.size w wc))
  case first =>
    have H := HC5.out
    clear HC5
    replace H := Option.bind_eq_some_iff.mp H
    obtain ⟨t232, A60, H⟩ := H
    replace H : ((num_ToInt.f t232).bind fun t233 => ((num_Wrap.f a0).bind fun t234 => (if t233 = t234 then ((num_Int.f a0).bind fun t235 => ((num_Int.f a1).bind fun t236 => ((num_Wrap.f a0).bind fun t237 => ((num_Wrap.f a1).bind fun t238 => (if ((t235 == t236) != (t237 == t238)) = true then (kindlinglaw01_NumApart.j0 k a2 a3 true) else ((num_Int.f a0).bind fun t239 => ((num_IsInt.f t239).bind fun t240 => (if t240 = true then ((num_Int.f a0).bind fun t241 => ((num_IsPtr.f t241).bind fun t242 => (kindlinglaw01_NumApart.j0 k a2 a3 t242))) else (kindlinglaw01_NumApart.j0 k a2 a3 true))))))))) else (kindlinglaw01_NumApart.j0 k a2 a3 true)))) = some r := H
    have A6 := Aside0.mk A60
    clear A60
    replace H := Option.bind_eq_some_iff.mp H
    obtain ⟨t233, A70, H⟩ := H
    replace H : ((num_Wrap.f a0).bind fun t234 => (if t233 = t234 then ((num_Int.f a0).bind fun t235 => ((num_Int.f a1).bind fun t236 => ((num_Wrap.f a0).bind fun t237 => ((num_Wrap.f a1).bind fun t238 => (if ((t235 == t236) != (t237 == t238)) = true then (kindlinglaw01_NumApart.j0 k a2 a3 true) else ((num_Int.f a0).bind fun t239 => ((num_IsInt.f t239).bind fun t240 => (if t240 = true then ((num_Int.f a0).bind fun t241 => ((num_IsPtr.f t241).bind fun t242 => (kindlinglaw01_NumApart.j0 k a2 a3 t242))) else (kindlinglaw01_NumApart.j0 k a2 a3 true))))))))) else (kindlinglaw01_NumApart.j0 k a2 a3 true))) = some r := H
    have A7 := Aside0.mk A70
    clear A70
    replace H := Option.bind_eq_some_iff.mp H
    obtain ⟨t234, A80, H⟩ := H
    replace H : (if t233 = t234 then ((num_Int.f a0).bind fun t235 => ((num_Int.f a1).bind fun t236 => ((num_Wrap.f a0).bind fun t237 => ((num_Wrap.f a1).bind fun t238 => (if ((t235 == t236) != (t237 == t238)) = true then (kindlinglaw01_NumApart.j0 k a2 a3 true) else ((num_Int.f a0).bind fun t239 => ((num_IsInt.f t239).bind fun t240 => (if t240 = true then ((num_Int.f a0).bind fun t241 => ((num_IsPtr.f t241).bind fun t242 => (kindlinglaw01_NumApart.j0 k a2 a3 t242))) else (kindlinglaw01_NumApart.j0 k a2 a3 true))))))))) else (kindlinglaw01_NumApart.j0 k a2 a3 true)) = some r := H
    have A8 := Aside0.mk A80
    clear A80
    by_cases c9 : t233 = t234
    · rw [if_pos c9] at H
      have c9b0 : (t233 == t234) = true := beq_iff_eq.mpr c9
      have c9b1 : (t233 != t234) = false := bne_eq_false_iff_eq.mpr c9
      clear c9
      (first | rw [c9b0] | (simp only [i64_w, i32_w]; rw [c9b0]) | skip)
      replace H := Option.bind_eq_some_iff.mp H
      obtain ⟨t235, A100, H⟩ := H
      have e_ : t232 = t235 := Option.some.inj (A6.out.symm.trans A100)
      subst e_
      replace H : ((num_Int.f a1).bind fun t236 => ((num_Wrap.f a0).bind fun t237 => ((num_Wrap.f a1).bind fun t238 => (if ((t232 == t236) != (t237 == t238)) = true then (kindlinglaw01_NumApart.j0 k a2 a3 true) else ((num_Int.f a0).bind fun t239 => ((num_IsInt.f t239).bind fun t240 => (if t240 = true then ((num_Int.f a0).bind fun t241 => ((num_IsPtr.f t241).bind fun t242 => (kindlinglaw01_NumApart.j0 k a2 a3 t242))) else (kindlinglaw01_NumApart.j0 k a2 a3 true)))))))) = some r := H
      have A10 := Aside0.mk A100
      clear A100
      replace H := Option.bind_eq_some_iff.mp H
      obtain ⟨t236, A110, H⟩ := H
      replace H : ((num_Wrap.f a0).bind fun t237 => ((num_Wrap.f a1).bind fun t238 => (if ((t232 == t236) != (t237 == t238)) = true then (kindlinglaw01_NumApart.j0 k a2 a3 true) else ((num_Int.f a0).bind fun t239 => ((num_IsInt.f t239).bind fun t240 => (if t240 = true then ((num_Int.f a0).bind fun t241 => ((num_IsPtr.f t241).bind fun t242 => (kindlinglaw01_NumApart.j0 k a2 a3 t242))) else (kindlinglaw01_NumApart.j0 k a2 a3 true))))))) = some r := H
      have A11 := Aside0.mk A110
      clear A110
      replace H := Option.bind_eq_some_iff.mp H
      obtain ⟨t237, A120, H⟩ := H
      have e_ : t234 = t237 := Option.some.inj (A8.out.symm.trans A120)
      subst e_
      replace H : ((num_Wrap.f a1).bind fun t238 => (if ((t232 == t236) != (t234 == t238)) = true then (kindlinglaw01_NumApart.j0 k a2 a3 true) else ((num_Int.f a0).bind fun t239 => ((num_IsInt.f t239).bind fun t240 => (if t240 = true then ((num_Int.f a0).bind fun t241 => ((num_IsPtr.f t241).bind fun t242 => (kindlinglaw01_NumApart.j0 k a2 a3 t242))) else (kindlinglaw01_NumApart.j0 k a2 a3 true)))))) = some r := H
      have A12 := Aside0.mk A120
      clear A120
      replace H := Option.bind_eq_some_iff.mp H
      obtain ⟨t238, A130, H⟩ := H
      replace H : (if ((t232 == t236) != (t234 == t238)) = true then (kindlinglaw01_NumApart.j0 k a2 a3 true) else ((num_Int.f a0).bind fun t239 => ((num_IsInt.f t239).bind fun t240 => (if t240 = true then ((num_Int.f a0).bind fun t241 => ((num_IsPtr.f t241).bind fun t242 => (kindlinglaw01_NumApart.j0 k a2 a3 t242))) else (kindlinglaw01_NumApart.j0 k a2 a3 true))))) = some r := H
      have A13 := Aside0.mk A130
      clear A130
      by_cases c14 : ((t232 == t236) != (t234 == t238)) = true
      · rw [if_pos c14] at H
        have c14b0 : ((t232 == t236) != (t234 == t238)) = true := c14
        (try (have c14b1 : decide ((t232 == t236) = (t234 == t238)) = false := by simpa using c14))
        (try (have c14b2 : ((t232 == t236) == (t234 == t238)) = false := by simpa using c14))
        (try (have c14b3 : ¬ ((t232 == t236) = (t234 == t238)) := by simpa using c14))
        clear c14
        have H' := Aside0.mk H
        clear H
        go_wp2_with (first | ((with_reducible refine gate_callee (f := 18) rfl ?_); refine goesL_ (some 10) rfl rfl Try.func18 (by kernel_rfl) rfl #[.int .i64 a0] rfl (by (try simp only [List.map_toArray, List.map_cons, List.map_nil]); first | done | rfl | (simp only [List.length_drop, List.length_take]; rfl)) ?_; (with_reducible refine (num_Int.calls a0 t232 _ A6.out).mono ?_); rintro e w' ⟨rfl, ⟨nd, rfl⟩⟩; refine ⟨_, rfl, ?_⟩) | ((with_reducible refine gate_callee (f := 38) rfl ?_); refine goesL_ (some 11) rfl rfl Try.func38 (by kernel_rfl) rfl #[.int .u64 t232] rfl (by (try simp only [List.map_toArray, List.map_cons, List.map_nil]); first | done | rfl | (simp only [List.length_drop, List.length_take]; rfl)) ?_; (with_reducible refine (num_ToInt.calls t232 t233 _ A7.out).mono ?_); rintro e w' ⟨rfl, ⟨nd, rfl⟩⟩; refine ⟨_, rfl, ?_⟩) | ((with_reducible refine gate_callee (f := 14) rfl ?_); refine goesL_ (some 13) rfl rfl Try.func14 (by kernel_rfl) rfl #[.int .i64 a0] rfl (by (try simp only [List.map_toArray, List.map_cons, List.map_nil]); first | done | rfl | (simp only [List.length_drop, List.length_take]; rfl)) ?_; (with_reducible refine (num_Wrap.calls a0 t234 _ A8.out).mono ?_); rintro e w' ⟨rfl, ⟨nd, rfl⟩⟩; refine ⟨_, rfl, ?_⟩) | (go_at_call 18; (with_reducible refine (num_Int.calls a0 t232 _ A10.out).mono ?_); rintro e w' ⟨rfl, ⟨nd, rfl⟩⟩) | (go_at_call 18; (with_reducible refine (num_Int.calls a1 t236 _ A11.out).mono ?_); rintro e w' ⟨rfl, ⟨nd, rfl⟩⟩) | (go_at_call 14; (with_reducible refine (num_Wrap.calls a0 t234 _ A12.out).mono ?_); rintro e w' ⟨rfl, ⟨nd, rfl⟩⟩) | (go_at_call 14; (with_reducible refine (num_Wrap.calls a1 t238 _ A13.out).mono ?_); rintro e w' ⟨rfl, ⟨nd, rfl⟩⟩))
        go_meet
        case rel => exact ⟨_, (true), (by first | rfl | (simp; done) | (simp [*]; done)), H', ⟨by first | omega | exact Nat.le_refl _⟩, ⟨by repeat (first | (with_reducible first | exact HB.out | apply below_alloc | apply pw_below_drewN | apply below_drew1) | exact HB.out)⟩⟩
      · rw [if_neg c14] at H
        have c14b0 : ((t232 == t236) != (t234 == t238)) = false := by simpa using c14
        (try (have c14b1 : decide ((t232 == t236) = (t234 == t238)) = true := by simpa using c14))
        (try (have c14b2 : ((t232 == t236) == (t234 == t238)) = true := by simpa using c14))
        clear c14
        replace H := Option.bind_eq_some_iff.mp H
        obtain ⟨t239, A150, H⟩ := H
        have e_ : t232 = t239 := Option.some.inj (A6.out.symm.trans A150)
        subst e_
        replace H : ((num_IsInt.f t232).bind fun t240 => (if t240 = true then ((num_Int.f a0).bind fun t241 => ((num_IsPtr.f t241).bind fun t242 => (kindlinglaw01_NumApart.j0 k a2 a3 t242))) else (kindlinglaw01_NumApart.j0 k a2 a3 true))) = some r := H
        have A15 := Aside0.mk A150
        clear A150
        replace H := Option.bind_eq_some_iff.mp H
        obtain ⟨t240, A160, H⟩ := H
        replace H : (if t240 = true then ((num_Int.f a0).bind fun t241 => ((num_IsPtr.f t241).bind fun t242 => (kindlinglaw01_NumApart.j0 k a2 a3 t242))) else (kindlinglaw01_NumApart.j0 k a2 a3 true)) = some r := H
        have A16 := Aside0.mk A160
        clear A160
        by_cases c17 : t240 = true
        · subst c17
          have H1 : ((num_Int.f a0).bind fun t241 => ((num_IsPtr.f t241).bind fun t242 => (kindlinglaw01_NumApart.j0 k a2 a3 t242))) = some r := by rw [if_pos rfl] at H; exact H
          clear H
          have H := H1
          clear H1
          replace H := Option.bind_eq_some_iff.mp H
          obtain ⟨t241, A180, H⟩ := H
          have e_ : t232 = t241 := Option.some.inj (A6.out.symm.trans A180)
          subst e_
          replace H : ((num_IsPtr.f t232).bind fun t242 => (kindlinglaw01_NumApart.j0 k a2 a3 t242)) = some r := H
          have A18 := Aside0.mk A180
          clear A180
          replace H := Option.bind_eq_some_iff.mp H
          obtain ⟨t242, A190, H⟩ := H
          replace H : (kindlinglaw01_NumApart.j0 k a2 a3 t242) = some r := H
          have A19 := Aside0.mk A190
          clear A190
          have H' := Aside0.mk H
          clear H
          go_wp2_with (first | ((with_reducible refine gate_callee (f := 18) rfl ?_); refine goesL_ (some 10) rfl rfl Try.func18 (by kernel_rfl) rfl #[.int .i64 a0] rfl (by (try simp only [List.map_toArray, List.map_cons, List.map_nil]); first | done | rfl | (simp only [List.length_drop, List.length_take]; rfl)) ?_; (with_reducible refine (num_Int.calls a0 t232 _ A6.out).mono ?_); rintro e w' ⟨rfl, ⟨nd, rfl⟩⟩; refine ⟨_, rfl, ?_⟩) | ((with_reducible refine gate_callee (f := 38) rfl ?_); refine goesL_ (some 11) rfl rfl Try.func38 (by kernel_rfl) rfl #[.int .u64 t232] rfl (by (try simp only [List.map_toArray, List.map_cons, List.map_nil]); first | done | rfl | (simp only [List.length_drop, List.length_take]; rfl)) ?_; (with_reducible refine (num_ToInt.calls t232 t233 _ A7.out).mono ?_); rintro e w' ⟨rfl, ⟨nd, rfl⟩⟩; refine ⟨_, rfl, ?_⟩) | ((with_reducible refine gate_callee (f := 14) rfl ?_); refine goesL_ (some 13) rfl rfl Try.func14 (by kernel_rfl) rfl #[.int .i64 a0] rfl (by (try simp only [List.map_toArray, List.map_cons, List.map_nil]); first | done | rfl | (simp only [List.length_drop, List.length_take]; rfl)) ?_; (with_reducible refine (num_Wrap.calls a0 t234 _ A8.out).mono ?_); rintro e w' ⟨rfl, ⟨nd, rfl⟩⟩; refine ⟨_, rfl, ?_⟩) | (go_at_call 18; (with_reducible refine (num_Int.calls a0 t232 _ A10.out).mono ?_); rintro e w' ⟨rfl, ⟨nd, rfl⟩⟩) | (go_at_call 18; (with_reducible refine (num_Int.calls a1 t236 _ A11.out).mono ?_); rintro e w' ⟨rfl, ⟨nd, rfl⟩⟩) | (go_at_call 14; (with_reducible refine (num_Wrap.calls a0 t234 _ A12.out).mono ?_); rintro e w' ⟨rfl, ⟨nd, rfl⟩⟩) | (go_at_call 14; (with_reducible refine (num_Wrap.calls a1 t238 _ A13.out).mono ?_); rintro e w' ⟨rfl, ⟨nd, rfl⟩⟩) | (go_at_call 18; (with_reducible refine (num_Int.calls a0 t232 _ A15.out).mono ?_); rintro e w' ⟨rfl, ⟨nd, rfl⟩⟩) | (go_at_call 34; (with_reducible refine (num_IsInt.calls t232 true _ A16.out).mono ?_); rintro e w' ⟨rfl, ⟨nd, rfl⟩⟩) | (go_at_call 18; (with_reducible refine (num_Int.calls a0 t232 _ A18.out).mono ?_); rintro e w' ⟨rfl, ⟨nd, rfl⟩⟩) | (go_at_call 36; (with_reducible refine (num_IsPtr.calls t232 t242 _ A19.out).mono ?_); rintro e w' ⟨rfl, ⟨nd, rfl⟩⟩))
          go_meet
          case rel => exact ⟨_, (t242), (by first | rfl | (simp; done) | (simp [*]; done)), H', ⟨by first | omega | exact Nat.le_refl _⟩, ⟨by repeat (first | (with_reducible first | exact HB.out | apply below_alloc | apply pw_below_drewN | apply below_drew1) | exact HB.out)⟩⟩
        · replace c17 := Bool.eq_false_iff.mpr c17
          subst c17
          have H1 : (kindlinglaw01_NumApart.j0 k a2 a3 true) = some r := by rw [if_neg (show ¬ (false = true) by decide)] at H; exact H
          clear H
          have H := H1
          clear H1
          have H' := Aside0.mk H
          clear H
          go_wp2_with (first | ((with_reducible refine gate_callee (f := 18) rfl ?_); refine goesL_ (some 10) rfl rfl Try.func18 (by kernel_rfl) rfl #[.int .i64 a0] rfl (by (try simp only [List.map_toArray, List.map_cons, List.map_nil]); first | done | rfl | (simp only [List.length_drop, List.length_take]; rfl)) ?_; (with_reducible refine (num_Int.calls a0 t232 _ A6.out).mono ?_); rintro e w' ⟨rfl, ⟨nd, rfl⟩⟩; refine ⟨_, rfl, ?_⟩) | ((with_reducible refine gate_callee (f := 38) rfl ?_); refine goesL_ (some 11) rfl rfl Try.func38 (by kernel_rfl) rfl #[.int .u64 t232] rfl (by (try simp only [List.map_toArray, List.map_cons, List.map_nil]); first | done | rfl | (simp only [List.length_drop, List.length_take]; rfl)) ?_; (with_reducible refine (num_ToInt.calls t232 t233 _ A7.out).mono ?_); rintro e w' ⟨rfl, ⟨nd, rfl⟩⟩; refine ⟨_, rfl, ?_⟩) | ((with_reducible refine gate_callee (f := 14) rfl ?_); refine goesL_ (some 13) rfl rfl Try.func14 (by kernel_rfl) rfl #[.int .i64 a0] rfl (by (try simp only [List.map_toArray, List.map_cons, List.map_nil]); first | done | rfl | (simp only [List.length_drop, List.length_take]; rfl)) ?_; (with_reducible refine (num_Wrap.calls a0 t234 _ A8.out).mono ?_); rintro e w' ⟨rfl, ⟨nd, rfl⟩⟩; refine ⟨_, rfl, ?_⟩) | (go_at_call 18; (with_reducible refine (num_Int.calls a0 t232 _ A10.out).mono ?_); rintro e w' ⟨rfl, ⟨nd, rfl⟩⟩) | (go_at_call 18; (with_reducible refine (num_Int.calls a1 t236 _ A11.out).mono ?_); rintro e w' ⟨rfl, ⟨nd, rfl⟩⟩) | (go_at_call 14; (with_reducible refine (num_Wrap.calls a0 t234 _ A12.out).mono ?_); rintro e w' ⟨rfl, ⟨nd, rfl⟩⟩) | (go_at_call 14; (with_reducible refine (num_Wrap.calls a1 t238 _ A13.out).mono ?_); rintro e w' ⟨rfl, ⟨nd, rfl⟩⟩) | (go_at_call 18; (with_reducible refine (num_Int.calls a0 t232 _ A15.out).mono ?_); rintro e w' ⟨rfl, ⟨nd, rfl⟩⟩) | (go_at_call 34; (with_reducible refine (num_IsInt.calls t232 false _ A16.out).mono ?_); rintro e w' ⟨rfl, ⟨nd, rfl⟩⟩))
          go_meet
          case rel => exact ⟨_, (true), (by first | rfl | (simp; done) | (simp [*]; done)), H', ⟨by first | omega | exact Nat.le_refl _⟩, ⟨by repeat (first | (with_reducible first | exact HB.out | apply below_alloc | apply pw_below_drewN | apply below_drew1) | exact HB.out)⟩⟩
    · rw [if_neg c9] at H
      have c9b0 : (t233 == t234) = false := beq_eq_false_iff_ne.mpr c9
      have c9b1 : (t233 != t234) = true := bne_iff_ne.mpr c9
      (first | rw [c9b0] | (simp only [i64_w, i32_w]; rw [c9b0]) | skip)
      have H' := Aside0.mk H
      clear H
      go_wp2_with (first | ((with_reducible refine gate_callee (f := 18) rfl ?_); refine goesL_ (some 10) rfl rfl Try.func18 (by kernel_rfl) rfl #[.int .i64 a0] rfl (by (try simp only [List.map_toArray, List.map_cons, List.map_nil]); first | done | rfl | (simp only [List.length_drop, List.length_take]; rfl)) ?_; (with_reducible refine (num_Int.calls a0 t232 _ A6.out).mono ?_); rintro e w' ⟨rfl, ⟨nd, rfl⟩⟩; refine ⟨_, rfl, ?_⟩) | ((with_reducible refine gate_callee (f := 38) rfl ?_); refine goesL_ (some 11) rfl rfl Try.func38 (by kernel_rfl) rfl #[.int .u64 t232] rfl (by (try simp only [List.map_toArray, List.map_cons, List.map_nil]); first | done | rfl | (simp only [List.length_drop, List.length_take]; rfl)) ?_; (with_reducible refine (num_ToInt.calls t232 t233 _ A7.out).mono ?_); rintro e w' ⟨rfl, ⟨nd, rfl⟩⟩; refine ⟨_, rfl, ?_⟩) | ((with_reducible refine gate_callee (f := 14) rfl ?_); refine goesL_ (some 13) rfl rfl Try.func14 (by kernel_rfl) rfl #[.int .i64 a0] rfl (by (try simp only [List.map_toArray, List.map_cons, List.map_nil]); first | done | rfl | (simp only [List.length_drop, List.length_take]; rfl)) ?_; (with_reducible refine (num_Wrap.calls a0 t234 _ A8.out).mono ?_); rintro e w' ⟨rfl, ⟨nd, rfl⟩⟩; refine ⟨_, rfl, ?_⟩))
      go_meet
      case rel => exact ⟨_, (true), (by first | rfl | (simp; done) | (simp [*]; done)), H', ⟨by first | omega | exact Nat.le_refl _⟩, ⟨by repeat (first | (with_reducible first | exact HB.out | apply below_alloc | apply pw_below_drewN | apply below_drew1) | exact HB.out)⟩⟩
  case rest =>
    clear HC5
    try clear c1
    try clear p2
    try clear c3
    try clear c9
    try clear c9b0
    try clear c9b1
    try clear c14
    try clear c14b0
    try clear c14b1
    try clear c14b2
    try clear c17
    try clear c18
    obtain ⟨kq, x38_4, rfl, HA, HJ4, HB⟩ := hcut
    cases kq with
    | zero => exact absurd HA.out (by simp [kindlinglaw01_NumApart.j0])
    | succ kj4 =>
      have H := HA.out
      clear HA
      simp only [kindlinglaw01_NumApart.j0] at H
      by_cases c20 : x38_4 = true
      · subst c20
        have H1 : (some false) = some r := by rw [if_pos rfl] at H; exact H
        clear H
        have H := H1
        clear H1
        obtain rfl := Option.some.inj H
        go_wp2
        go_ret
        exact ⟨by first | rfl | (simp [errW_none, errW_some] <;> rfl) | (simp [*, errW_none, errW_some] <;> rfl), by repeat (first | (with_reducible first | exact HB.out | apply below_alloc | apply pw_below_drewN | apply below_drew1) | exact HB.out)⟩
      · replace c20 := Bool.eq_false_iff.mpr c20
        subst c20
        have H1 : (if a2 ≥ 1 then (if a2 ≤ 1099511627776 then ((num_Ptr.f a2).bind fun t243 => ((num_ToPtr.f t243).bind fun t244 => (if t244 = a2 then ((num_Ptr.f a2).bind fun t245 => ((num_IsPtr.f t245).bind fun t246 => (if t246 = true then ((num_Ptr.f a2).bind fun t247 => ((num_IsInt.f t247).bind fun t248 => (kindlinglaw01_NumApart.j1 kj4 a3 t248))) else (kindlinglaw01_NumApart.j1 kj4 a3 true)))) else (kindlinglaw01_NumApart.j1 kj4 a3 true)))) else (kindlinglaw01_NumApart.j1 kj4 a3 false)) else (kindlinglaw01_NumApart.j1 kj4 a3 false)) = some r := by rw [if_neg (show ¬ (false = true) by decide)] at H; exact H
        clear H
        have H := H1
        clear H1
        have HC21 := Aside0.mk H
        clear H
        go_upto_region 3 with (fail)
        go_cut [62] (fun v62 wc => ∃ (kq : Nat) (x62_20 : Bool), v62 = .bool x62_20 ∧ Aside0 (kindlinglaw01_NumApart.j1 kq a3 x62_20 = some r) ∧ Aside0 (kq ≤ kj4) ∧ Aside0 (Below w.heap.size w wc))
        case first =>
          have H := HC21.out
          clear HC21
          by_cases c22 : a2 ≥ 1
          · rw [if_pos c22] at H
            have c22b0 : decide (1 ≤ a2) = true := decide_eq_true c22
            clear c22
            (first | rw [c22b0] | (simp only [i64_w, i32_w]; rw [c22b0]) | skip)
            by_cases c23 : a2 ≤ 1099511627776
            · rw [if_pos c23] at H
              have c23b0 : decide (a2 ≤ 1099511627776) = true := decide_eq_true c23
              clear c23
              replace H := Option.bind_eq_some_iff.mp H
              obtain ⟨t243, A240, H⟩ := H
              replace H : ((num_ToPtr.f t243).bind fun t244 => (if t244 = a2 then ((num_Ptr.f a2).bind fun t245 => ((num_IsPtr.f t245).bind fun t246 => (if t246 = true then ((num_Ptr.f a2).bind fun t247 => ((num_IsInt.f t247).bind fun t248 => (kindlinglaw01_NumApart.j1 kj4 a3 t248))) else (kindlinglaw01_NumApart.j1 kj4 a3 true)))) else (kindlinglaw01_NumApart.j1 kj4 a3 true))) = some r := H
              have A24 := Aside0.mk A240
              clear A240
              replace H := Option.bind_eq_some_iff.mp H
              obtain ⟨t244, A250, H⟩ := H
              replace H : (if t244 = a2 then ((num_Ptr.f a2).bind fun t245 => ((num_IsPtr.f t245).bind fun t246 => (if t246 = true then ((num_Ptr.f a2).bind fun t247 => ((num_IsInt.f t247).bind fun t248 => (kindlinglaw01_NumApart.j1 kj4 a3 t248))) else (kindlinglaw01_NumApart.j1 kj4 a3 true)))) else (kindlinglaw01_NumApart.j1 kj4 a3 true)) = some r := H
              have A25 := Aside0.mk A250
              clear A250
              by_cases c26 : t244 = a2
              · rw [if_pos c26] at H
                have c26b0 : (t244 == a2) = true := beq_iff_eq.mpr c26
                have c26b1 : (t244 != a2) = false := bne_eq_false_iff_eq.mpr c26
                clear c26
                replace H := Option.bind_eq_some_iff.mp H
                obtain ⟨t245, A270, H⟩ := H
                have e_ : t243 = t245 := Option.some.inj (A24.out.symm.trans A270)
                subst e_
                replace H : ((num_IsPtr.f t243).bind fun t246 => (if t246 = true then ((num_Ptr.f a2).bind fun t247 => ((num_IsInt.f t247).bind fun t248 => (kindlinglaw01_NumApart.j1 kj4 a3 t248))) else (kindlinglaw01_NumApart.j1 kj4 a3 true))) = some r := H
                have A27 := Aside0.mk A270
                clear A270
                replace H := Option.bind_eq_some_iff.mp H
                obtain ⟨t246, A280, H⟩ := H
                replace H : (if t246 = true then ((num_Ptr.f a2).bind fun t247 => ((num_IsInt.f t247).bind fun t248 => (kindlinglaw01_NumApart.j1 kj4 a3 t248))) else (kindlinglaw01_NumApart.j1 kj4 a3 true)) = some r := H
                have A28 := Aside0.mk A280
                clear A280
                by_cases c29 : t246 = true
                · subst c29
                  have H1 : ((num_Ptr.f a2).bind fun t247 => ((num_IsInt.f t247).bind fun t248 => (kindlinglaw01_NumApart.j1 kj4 a3 t248))) = some r := by rw [if_pos rfl] at H; exact H
                  clear H
                  have H := H1
                  clear H1
                  replace H := Option.bind_eq_some_iff.mp H
                  obtain ⟨t247, A300, H⟩ := H
                  have e_ : t243 = t247 := Option.some.inj (A24.out.symm.trans A300)
                  subst e_
                  replace H : ((num_IsInt.f t243).bind fun t248 => (kindlinglaw01_NumApart.j1 kj4 a3 t248)) = some r := H
                  have A30 := Aside0.mk A300
                  clear A300
                  replace H := Option.bind_eq_some_iff.mp H
                  obtain ⟨t248, A310, H⟩ := H
                  replace H : (kindlinglaw01_NumApart.j1 kj4 a3 t248) = some r := H
                  have A31 := Aside0.mk A310
                  clear A310
                  have H' := Aside0.mk H
                  clear H
                  go_wp2_with (first | (go_at_call 32; (with_reducible refine (num_Ptr.calls a2 t243 _ A24.out).mono ?_); rintro e w' ⟨rfl, ⟨nd, rfl⟩⟩) | (go_at_call 40; (with_reducible refine (num_ToPtr.calls t243 t244 _ A25.out).mono ?_); rintro e w' ⟨rfl, ⟨nd, rfl⟩⟩) | (go_at_call 32; (with_reducible refine (num_Ptr.calls a2 t243 _ A27.out).mono ?_); rintro e w' ⟨rfl, ⟨nd, rfl⟩⟩) | (go_at_call 36; (with_reducible refine (num_IsPtr.calls t243 true _ A28.out).mono ?_); rintro e w' ⟨rfl, ⟨nd, rfl⟩⟩) | (go_at_call 32; (with_reducible refine (num_Ptr.calls a2 t243 _ A30.out).mono ?_); rintro e w' ⟨rfl, ⟨nd, rfl⟩⟩) | (go_at_call 34; (with_reducible refine (num_IsInt.calls t243 t248 _ A31.out).mono ?_); rintro e w' ⟨rfl, ⟨nd, rfl⟩⟩))
                  go_meet
                  case rel => exact ⟨_, (t248), (by first | rfl | (simp; done) | (simp [*]; done)), H', ⟨by have := HJ4.out; first | omega | exact Nat.le_refl _⟩, ⟨by repeat (first | (with_reducible first | exact HB.out | apply below_alloc | apply pw_below_drewN | apply below_drew1) | exact HB.out)⟩⟩
                · replace c29 := Bool.eq_false_iff.mpr c29
                  subst c29
                  have H1 : (kindlinglaw01_NumApart.j1 kj4 a3 true) = some r := by rw [if_neg (show ¬ (false = true) by decide)] at H; exact H
                  clear H
                  have H := H1
                  clear H1
                  have H' := Aside0.mk H
                  clear H
                  go_wp2_with (first | (go_at_call 32; (with_reducible refine (num_Ptr.calls a2 t243 _ A24.out).mono ?_); rintro e w' ⟨rfl, ⟨nd, rfl⟩⟩) | (go_at_call 40; (with_reducible refine (num_ToPtr.calls t243 t244 _ A25.out).mono ?_); rintro e w' ⟨rfl, ⟨nd, rfl⟩⟩) | (go_at_call 32; (with_reducible refine (num_Ptr.calls a2 t243 _ A27.out).mono ?_); rintro e w' ⟨rfl, ⟨nd, rfl⟩⟩) | (go_at_call 36; (with_reducible refine (num_IsPtr.calls t243 false _ A28.out).mono ?_); rintro e w' ⟨rfl, ⟨nd, rfl⟩⟩))
                  go_meet
                  case rel => exact ⟨_, (true), (by first | rfl | (simp; done) | (simp [*]; done)), H', ⟨by have := HJ4.out; first | omega | exact Nat.le_refl _⟩, ⟨by repeat (first | (with_reducible first | exact HB.out | apply below_alloc | apply pw_below_drewN | apply below_drew1) | exact HB.out)⟩⟩
              · rw [if_neg c26] at H
                have c26b0 : (t244 == a2) = false := beq_eq_false_iff_ne.mpr c26
                have c26b1 : (t244 != a2) = true := bne_iff_ne.mpr c26
                have H' := Aside0.mk H
                clear H
                go_wp2_with (first | (go_at_call 32; (with_reducible refine (num_Ptr.calls a2 t243 _ A24.out).mono ?_); rintro e w' ⟨rfl, ⟨nd, rfl⟩⟩) | (go_at_call 40; (with_reducible refine (num_ToPtr.calls t243 t244 _ A25.out).mono ?_); rintro e w' ⟨rfl, ⟨nd, rfl⟩⟩))
                go_meet
                case rel => exact ⟨_, (true), (by first | rfl | (simp; done) | (simp [*]; done)), H', ⟨by have := HJ4.out; first | omega | exact Nat.le_refl _⟩, ⟨by repeat (first | (with_reducible first | exact HB.out | apply below_alloc | apply pw_below_drewN | apply below_drew1) | exact HB.out)⟩⟩
            · rw [if_neg c23] at H
              have c23b0 : decide (a2 ≤ 1099511627776) = false := decide_eq_false c23
              clear c23
              have H' := Aside0.mk H
              clear H
              go_wp2
              go_meet
              case rel => exact ⟨_, (false), (by first | rfl | (simp; done) | (simp [*]; done)), H', ⟨by have := HJ4.out; first | omega | exact Nat.le_refl _⟩, ⟨by repeat (first | (with_reducible first | exact HB.out | apply below_alloc | apply pw_below_drewN | apply below_drew1) | exact HB.out)⟩⟩
          · rw [if_neg c22] at H
            have c22b0 : decide (1 ≤ a2) = false := decide_eq_false c22
            clear c22
            (first | rw [c22b0] | (simp only [i64_w, i32_w]; rw [c22b0]) | skip)
            have H' := Aside0.mk H
            clear H
            go_wp2
            go_meet
            case rel => exact ⟨_, (false), (by first | rfl | (simp; done) | (simp [*]; done)), H', ⟨by have := HJ4.out; first | omega | exact Nat.le_refl _⟩, ⟨by repeat (first | (with_reducible first | exact HB.out | apply below_alloc | apply pw_below_drewN | apply below_drew1) | exact HB.out)⟩⟩
        case rest =>
          clear HC21
          try clear c1
          try clear c2
          try clear p2
          try clear c3
          try clear c9
          try clear c9b0
          try clear c9b1
          try clear c14
          try clear c14b0
          try clear c14b1
          try clear c14b2
          try clear c17
          try clear c18
          try clear c20
          try clear c22
          try clear c22b0
          try clear c23
          try clear c23b0
          try clear c26
          try clear c26b0
          try clear c26b1
          try clear c29
          try clear p2
          obtain ⟨kq, x62_20, rfl, HA, HJ20, HB⟩ := hcut
          cases kq with
          | zero => exact absurd HA.out (by simp [kindlinglaw01_NumApart.j1])
          | succ kj20 =>
            have H := HA.out
            clear HA
            simp only [kindlinglaw01_NumApart.j1] at H
            by_cases c32 : x62_20 = true
            · subst c32
              have H1 : (some false) = some r := by rw [if_pos rfl] at H; exact H
              clear H
              have H := H1
              clear H1
              obtain rfl := Option.some.inj H
              go_wp2
              go_ret
              exact ⟨by first | rfl | (simp [errW_none, errW_some] <;> rfl) | (simp [*, errW_none, errW_some] <;> rfl), by repeat (first | (with_reducible first | exact HB.out | apply below_alloc | apply pw_below_drewN | apply below_drew1) | exact HB.out)⟩
            · replace c32 := Bool.eq_false_iff.mpr c32
              subst c32
              have H1 : ((num_IsInt.f a3).bind fun t249 => (if t249 = true then ((num_IsPtr.f a3).bind fun t250 => (if t250 = true then (some false) else ((num_IsInt.f a3).bind fun t251 => (if t251 = true then ((num_ToInt.f a3).bind fun t252 => ((num_Int.f t252).bind fun t253 => (if t253 = a3 then ((num_IsPtr.f a3).bind fun t254 => (if t254 = true then ((num_ToPtr.f a3).bind fun t255 => ((num_Ptr.f t255).bind fun t256 => (if t256 = a3 then ((kindlinglaw01_known.f).bind fun t257 => (some t257)) else (some false)))) else ((kindlinglaw01_known.f).bind fun t258 => (some t258)))) else (some false)))) else ((num_IsPtr.f a3).bind fun t259 => (if t259 = true then ((num_ToPtr.f a3).bind fun t260 => ((num_Ptr.f t260).bind fun t261 => (if t261 = a3 then ((kindlinglaw01_known.f).bind fun t262 => (some t262)) else (some false)))) else ((kindlinglaw01_known.f).bind fun t263 => (some t263)))))))) else ((num_IsInt.f a3).bind fun t264 => (if t264 = true then ((num_ToInt.f a3).bind fun t265 => ((num_Int.f t265).bind fun t266 => (if t266 = a3 then ((num_IsPtr.f a3).bind fun t267 => (if t267 = true then ((num_ToPtr.f a3).bind fun t268 => ((num_Ptr.f t268).bind fun t269 => (if t269 = a3 then ((kindlinglaw01_known.f).bind fun t270 => (some t270)) else (some false)))) else ((kindlinglaw01_known.f).bind fun t271 => (some t271)))) else (some false)))) else ((num_IsPtr.f a3).bind fun t272 => (if t272 = true then ((num_ToPtr.f a3).bind fun t273 => ((num_Ptr.f t273).bind fun t274 => (if t274 = a3 then ((kindlinglaw01_known.f).bind fun t275 => (some t275)) else (some false)))) else ((kindlinglaw01_known.f).bind fun t276 => (some t276)))))))) = some r := by rw [if_neg (show ¬ (false = true) by decide)] at H; exact H
              clear H
              have H := H1
              clear H1
              replace H := Option.bind_eq_some_iff.mp H
              obtain ⟨t249, A330, H⟩ := H
              replace H : (if t249 = true then ((num_IsPtr.f a3).bind fun t250 => (if t250 = true then (some false) else ((num_IsInt.f a3).bind fun t251 => (if t251 = true then ((num_ToInt.f a3).bind fun t252 => ((num_Int.f t252).bind fun t253 => (if t253 = a3 then ((num_IsPtr.f a3).bind fun t254 => (if t254 = true then ((num_ToPtr.f a3).bind fun t255 => ((num_Ptr.f t255).bind fun t256 => (if t256 = a3 then ((kindlinglaw01_known.f).bind fun t257 => (some t257)) else (some false)))) else ((kindlinglaw01_known.f).bind fun t258 => (some t258)))) else (some false)))) else ((num_IsPtr.f a3).bind fun t259 => (if t259 = true then ((num_ToPtr.f a3).bind fun t260 => ((num_Ptr.f t260).bind fun t261 => (if t261 = a3 then ((kindlinglaw01_known.f).bind fun t262 => (some t262)) else (some false)))) else ((kindlinglaw01_known.f).bind fun t263 => (some t263)))))))) else ((num_IsInt.f a3).bind fun t264 => (if t264 = true then ((num_ToInt.f a3).bind fun t265 => ((num_Int.f t265).bind fun t266 => (if t266 = a3 then ((num_IsPtr.f a3).bind fun t267 => (if t267 = true then ((num_ToPtr.f a3).bind fun t268 => ((num_Ptr.f t268).bind fun t269 => (if t269 = a3 then ((kindlinglaw01_known.f).bind fun t270 => (some t270)) else (some false)))) else ((kindlinglaw01_known.f).bind fun t271 => (some t271)))) else (some false)))) else ((num_IsPtr.f a3).bind fun t272 => (if t272 = true then ((num_ToPtr.f a3).bind fun t273 => ((num_Ptr.f t273).bind fun t274 => (if t274 = a3 then ((kindlinglaw01_known.f).bind fun t275 => (some t275)) else (some false)))) else ((kindlinglaw01_known.f).bind fun t276 => (some t276))))))) = some r := H
              have A33 := Aside0.mk A330
              clear A330
              by_cases c34 : t249 = true
              · subst c34
                have H1 : ((num_IsPtr.f a3).bind fun t250 => (if t250 = true then (some false) else ((num_IsInt.f a3).bind fun t251 => (if t251 = true then ((num_ToInt.f a3).bind fun t252 => ((num_Int.f t252).bind fun t253 => (if t253 = a3 then ((num_IsPtr.f a3).bind fun t254 => (if t254 = true then ((num_ToPtr.f a3).bind fun t255 => ((num_Ptr.f t255).bind fun t256 => (if t256 = a3 then ((kindlinglaw01_known.f).bind fun t257 => (some t257)) else (some false)))) else ((kindlinglaw01_known.f).bind fun t258 => (some t258)))) else (some false)))) else ((num_IsPtr.f a3).bind fun t259 => (if t259 = true then ((num_ToPtr.f a3).bind fun t260 => ((num_Ptr.f t260).bind fun t261 => (if t261 = a3 then ((kindlinglaw01_known.f).bind fun t262 => (some t262)) else (some false)))) else ((kindlinglaw01_known.f).bind fun t263 => (some t263)))))))) = some r := by rw [if_pos rfl] at H; exact H
                clear H
                have H := H1
                clear H1
                replace H := Option.bind_eq_some_iff.mp H
                obtain ⟨t250, A350, H⟩ := H
                replace H : (if t250 = true then (some false) else ((num_IsInt.f a3).bind fun t251 => (if t251 = true then ((num_ToInt.f a3).bind fun t252 => ((num_Int.f t252).bind fun t253 => (if t253 = a3 then ((num_IsPtr.f a3).bind fun t254 => (if t254 = true then ((num_ToPtr.f a3).bind fun t255 => ((num_Ptr.f t255).bind fun t256 => (if t256 = a3 then ((kindlinglaw01_known.f).bind fun t257 => (some t257)) else (some false)))) else ((kindlinglaw01_known.f).bind fun t258 => (some t258)))) else (some false)))) else ((num_IsPtr.f a3).bind fun t259 => (if t259 = true then ((num_ToPtr.f a3).bind fun t260 => ((num_Ptr.f t260).bind fun t261 => (if t261 = a3 then ((kindlinglaw01_known.f).bind fun t262 => (some t262)) else (some false)))) else ((kindlinglaw01_known.f).bind fun t263 => (some t263))))))) = some r := H
                have A35 := Aside0.mk A350
                clear A350
                by_cases c36 : t250 = true
                · subst c36
                  have H1 : (some false) = some r := by rw [if_pos rfl] at H; exact H
                  clear H
                  have H := H1
                  clear H1
                  obtain rfl := Option.some.inj H
                  go_wp2_with (first | ((with_reducible refine gate_callee (f := 34) rfl ?_); refine goesL_ (some 64) rfl rfl Try.func34 (by kernel_rfl) rfl #[.int .u64 a3] rfl (by (try simp only [List.map_toArray, List.map_cons, List.map_nil]); first | done | rfl | (simp only [List.length_drop, List.length_take]; rfl)) ?_; (with_reducible refine (num_IsInt.calls a3 true _ A33.out).mono ?_); rintro e w' ⟨rfl, ⟨nd, rfl⟩⟩; refine ⟨_, rfl, ?_⟩) | (go_at_call 36; (with_reducible refine (num_IsPtr.calls a3 true _ A35.out).mono ?_); rintro e w' ⟨rfl, ⟨nd, rfl⟩⟩))
                  go_ret
                  exact ⟨by first | rfl | (simp [errW_none, errW_some] <;> rfl) | (simp [*, errW_none, errW_some] <;> rfl), by repeat (first | (with_reducible first | exact HB.out | apply below_alloc | apply pw_below_drewN | apply below_drew1) | exact HB.out)⟩
                · replace c36 := Bool.eq_false_iff.mpr c36
                  subst c36
                  have H1 : ((num_IsInt.f a3).bind fun t251 => (if t251 = true then ((num_ToInt.f a3).bind fun t252 => ((num_Int.f t252).bind fun t253 => (if t253 = a3 then ((num_IsPtr.f a3).bind fun t254 => (if t254 = true then ((num_ToPtr.f a3).bind fun t255 => ((num_Ptr.f t255).bind fun t256 => (if t256 = a3 then ((kindlinglaw01_known.f).bind fun t257 => (some t257)) else (some false)))) else ((kindlinglaw01_known.f).bind fun t258 => (some t258)))) else (some false)))) else ((num_IsPtr.f a3).bind fun t259 => (if t259 = true then ((num_ToPtr.f a3).bind fun t260 => ((num_Ptr.f t260).bind fun t261 => (if t261 = a3 then ((kindlinglaw01_known.f).bind fun t262 => (some t262)) else (some false)))) else ((kindlinglaw01_known.f).bind fun t263 => (some t263)))))) = some r := by rw [if_neg (show ¬ (false = true) by decide)] at H; exact H
                  clear H
                  have H := H1
                  clear H1
                  replace H := Option.bind_eq_some_iff.mp H
                  obtain ⟨t251, A370, H⟩ := H
                  have e_ : true = t251 := Option.some.inj (A33.out.symm.trans A370)
                  subst e_
                  replace H : (if true = true then ((num_ToInt.f a3).bind fun t252 => ((num_Int.f t252).bind fun t253 => (if t253 = a3 then ((num_IsPtr.f a3).bind fun t254 => (if t254 = true then ((num_ToPtr.f a3).bind fun t255 => ((num_Ptr.f t255).bind fun t256 => (if t256 = a3 then ((kindlinglaw01_known.f).bind fun t257 => (some t257)) else (some false)))) else ((kindlinglaw01_known.f).bind fun t258 => (some t258)))) else (some false)))) else ((num_IsPtr.f a3).bind fun t259 => (if t259 = true then ((num_ToPtr.f a3).bind fun t260 => ((num_Ptr.f t260).bind fun t261 => (if t261 = a3 then ((kindlinglaw01_known.f).bind fun t262 => (some t262)) else (some false)))) else ((kindlinglaw01_known.f).bind fun t263 => (some t263))))) = some r := H
                  have A37 := Aside0.mk A370
                  clear A370
                  rw [if_pos rfl] at H
                  replace H := Option.bind_eq_some_iff.mp H
                  obtain ⟨t252, A380, H⟩ := H
                  replace H : ((num_Int.f t252).bind fun t253 => (if t253 = a3 then ((num_IsPtr.f a3).bind fun t254 => (if t254 = true then ((num_ToPtr.f a3).bind fun t255 => ((num_Ptr.f t255).bind fun t256 => (if t256 = a3 then ((kindlinglaw01_known.f).bind fun t257 => (some t257)) else (some false)))) else ((kindlinglaw01_known.f).bind fun t258 => (some t258)))) else (some false))) = some r := H
                  have A38 := Aside0.mk A380
                  clear A380
                  replace H := Option.bind_eq_some_iff.mp H
                  obtain ⟨t253, A390, H⟩ := H
                  replace H : (if t253 = a3 then ((num_IsPtr.f a3).bind fun t254 => (if t254 = true then ((num_ToPtr.f a3).bind fun t255 => ((num_Ptr.f t255).bind fun t256 => (if t256 = a3 then ((kindlinglaw01_known.f).bind fun t257 => (some t257)) else (some false)))) else ((kindlinglaw01_known.f).bind fun t258 => (some t258)))) else (some false)) = some r := H
                  have A39 := Aside0.mk A390
                  clear A390
                  by_cases c40 : t253 = a3
                  · rw [if_pos c40] at H
                    have c40b0 : (t253 == a3) = true := beq_iff_eq.mpr c40
                    have c40b1 : (t253 != a3) = false := bne_eq_false_iff_eq.mpr c40
                    clear c40
                    replace H := Option.bind_eq_some_iff.mp H
                    obtain ⟨t254, A410, H⟩ := H
                    have e_ : false = t254 := Option.some.inj (A35.out.symm.trans A410)
                    subst e_
                    replace H : (if false = true then ((num_ToPtr.f a3).bind fun t255 => ((num_Ptr.f t255).bind fun t256 => (if t256 = a3 then ((kindlinglaw01_known.f).bind fun t257 => (some t257)) else (some false)))) else ((kindlinglaw01_known.f).bind fun t258 => (some t258))) = some r := H
                    have A41 := Aside0.mk A410
                    clear A410
                    rw [if_neg (by decide)] at H
                    replace H := Option.bind_eq_some_iff.mp H
                    obtain ⟨t258, A420, H⟩ := H
                    replace H : (some t258) = some r := H
                    have A42 := Aside0.mk A420
                    clear A420
                    obtain rfl := Option.some.inj H
                    go_wp2_with (first | ((with_reducible refine gate_callee (f := 34) rfl ?_); refine goesL_ (some 64) rfl rfl Try.func34 (by kernel_rfl) rfl #[.int .u64 a3] rfl (by (try simp only [List.map_toArray, List.map_cons, List.map_nil]); first | done | rfl | (simp only [List.length_drop, List.length_take]; rfl)) ?_; (with_reducible refine (num_IsInt.calls a3 true _ A33.out).mono ?_); rintro e w' ⟨rfl, ⟨nd, rfl⟩⟩; refine ⟨_, rfl, ?_⟩) | (go_at_call 36; (with_reducible refine (num_IsPtr.calls a3 false _ A35.out).mono ?_); rintro e w' ⟨rfl, ⟨nd, rfl⟩⟩) | (go_at_call 34; (with_reducible refine (num_IsInt.calls a3 true _ A37.out).mono ?_); rintro e w' ⟨rfl, ⟨nd, rfl⟩⟩) | (go_at_call 38; (with_reducible refine (num_ToInt.calls a3 t252 _ A38.out).mono ?_); rintro e w' ⟨rfl, ⟨nd, rfl⟩⟩) | (go_at_call 18; (with_reducible refine (num_Int.calls t252 t253 _ A39.out).mono ?_); rintro e w' ⟨rfl, ⟨nd, rfl⟩⟩) | (go_at_call 36; (with_reducible refine (num_IsPtr.calls a3 false _ A41.out).mono ?_); rintro e w' ⟨rfl, ⟨nd, rfl⟩⟩) | (go_at_call 19; (with_reducible refine (kindlinglaw01_known.calls  t258 _ A42.out).mono ?_); rintro e w43 ⟨rfl, hb⟩; have n0_ := Aside0.mk (below_step (by repeat (first | (with_reducible first | exact HB.out | apply below_alloc | apply pw_below_drewN | apply below_drew1) | exact HB.out)) hb); clear HB; have HB := n0_; clear n0_; (try clear hb); (try clear hb2); (try clear hk); (try clear hi)))
                    go_ret
                    exact ⟨by first | rfl | (simp [errW_none, errW_some] <;> rfl) | (simp [*, errW_none, errW_some] <;> rfl), by repeat (first | (with_reducible first | exact HB.out | apply below_alloc | apply pw_below_drewN | apply below_drew1) | exact HB.out)⟩
                  · rw [if_neg c40] at H
                    have c40b0 : (t253 == a3) = false := beq_eq_false_iff_ne.mpr c40
                    have c40b1 : (t253 != a3) = true := bne_iff_ne.mpr c40
                    obtain rfl := Option.some.inj H
                    go_wp2_with (first | ((with_reducible refine gate_callee (f := 34) rfl ?_); refine goesL_ (some 64) rfl rfl Try.func34 (by kernel_rfl) rfl #[.int .u64 a3] rfl (by (try simp only [List.map_toArray, List.map_cons, List.map_nil]); first | done | rfl | (simp only [List.length_drop, List.length_take]; rfl)) ?_; (with_reducible refine (num_IsInt.calls a3 true _ A33.out).mono ?_); rintro e w' ⟨rfl, ⟨nd, rfl⟩⟩; refine ⟨_, rfl, ?_⟩) | (go_at_call 36; (with_reducible refine (num_IsPtr.calls a3 false _ A35.out).mono ?_); rintro e w' ⟨rfl, ⟨nd, rfl⟩⟩) | (go_at_call 34; (with_reducible refine (num_IsInt.calls a3 true _ A37.out).mono ?_); rintro e w' ⟨rfl, ⟨nd, rfl⟩⟩) | (go_at_call 38; (with_reducible refine (num_ToInt.calls a3 t252 _ A38.out).mono ?_); rintro e w' ⟨rfl, ⟨nd, rfl⟩⟩) | (go_at_call 18; (with_reducible refine (num_Int.calls t252 t253 _ A39.out).mono ?_); rintro e w' ⟨rfl, ⟨nd, rfl⟩⟩))
                    go_ret
                    exact ⟨by first | rfl | (simp [errW_none, errW_some] <;> rfl) | (simp [*, errW_none, errW_some] <;> rfl), by repeat (first | (with_reducible first | exact HB.out | apply below_alloc | apply pw_below_drewN | apply below_drew1) | exact HB.out)⟩
              · replace c34 := Bool.eq_false_iff.mpr c34
                subst c34
                have H1 : ((num_IsInt.f a3).bind fun t264 => (if t264 = true then ((num_ToInt.f a3).bind fun t265 => ((num_Int.f t265).bind fun t266 => (if t266 = a3 then ((num_IsPtr.f a3).bind fun t267 => (if t267 = true then ((num_ToPtr.f a3).bind fun t268 => ((num_Ptr.f t268).bind fun t269 => (if t269 = a3 then ((kindlinglaw01_known.f).bind fun t270 => (some t270)) else (some false)))) else ((kindlinglaw01_known.f).bind fun t271 => (some t271)))) else (some false)))) else ((num_IsPtr.f a3).bind fun t272 => (if t272 = true then ((num_ToPtr.f a3).bind fun t273 => ((num_Ptr.f t273).bind fun t274 => (if t274 = a3 then ((kindlinglaw01_known.f).bind fun t275 => (some t275)) else (some false)))) else ((kindlinglaw01_known.f).bind fun t276 => (some t276)))))) = some r := by rw [if_neg (show ¬ (false = true) by decide)] at H; exact H
                clear H
                have H := H1
                clear H1
                replace H := Option.bind_eq_some_iff.mp H
                obtain ⟨t264, A440, H⟩ := H
                have e_ : false = t264 := Option.some.inj (A33.out.symm.trans A440)
                subst e_
                replace H : (if false = true then ((num_ToInt.f a3).bind fun t265 => ((num_Int.f t265).bind fun t266 => (if t266 = a3 then ((num_IsPtr.f a3).bind fun t267 => (if t267 = true then ((num_ToPtr.f a3).bind fun t268 => ((num_Ptr.f t268).bind fun t269 => (if t269 = a3 then ((kindlinglaw01_known.f).bind fun t270 => (some t270)) else (some false)))) else ((kindlinglaw01_known.f).bind fun t271 => (some t271)))) else (some false)))) else ((num_IsPtr.f a3).bind fun t272 => (if t272 = true then ((num_ToPtr.f a3).bind fun t273 => ((num_Ptr.f t273).bind fun t274 => (if t274 = a3 then ((kindlinglaw01_known.f).bind fun t275 => (some t275)) else (some false)))) else ((kindlinglaw01_known.f).bind fun t276 => (some t276))))) = some r := H
                have A44 := Aside0.mk A440
                clear A440
                rw [if_neg (by decide)] at H
                replace H := Option.bind_eq_some_iff.mp H
                obtain ⟨t272, A450, H⟩ := H
                replace H : (if t272 = true then ((num_ToPtr.f a3).bind fun t273 => ((num_Ptr.f t273).bind fun t274 => (if t274 = a3 then ((kindlinglaw01_known.f).bind fun t275 => (some t275)) else (some false)))) else ((kindlinglaw01_known.f).bind fun t276 => (some t276))) = some r := H
                have A45 := Aside0.mk A450
                clear A450
                by_cases c46 : t272 = true
                · subst c46
                  have H1 : ((num_ToPtr.f a3).bind fun t273 => ((num_Ptr.f t273).bind fun t274 => (if t274 = a3 then ((kindlinglaw01_known.f).bind fun t275 => (some t275)) else (some false)))) = some r := by rw [if_pos rfl] at H; exact H
                  clear H
                  have H := H1
                  clear H1
                  replace H := Option.bind_eq_some_iff.mp H
                  obtain ⟨t273, A470, H⟩ := H
                  replace H : ((num_Ptr.f t273).bind fun t274 => (if t274 = a3 then ((kindlinglaw01_known.f).bind fun t275 => (some t275)) else (some false))) = some r := H
                  have A47 := Aside0.mk A470
                  clear A470
                  replace H := Option.bind_eq_some_iff.mp H
                  obtain ⟨t274, A480, H⟩ := H
                  replace H : (if t274 = a3 then ((kindlinglaw01_known.f).bind fun t275 => (some t275)) else (some false)) = some r := H
                  have A48 := Aside0.mk A480
                  clear A480
                  by_cases c49 : t274 = a3
                  · rw [if_pos c49] at H
                    have c49b0 : (t274 == a3) = true := beq_iff_eq.mpr c49
                    have c49b1 : (t274 != a3) = false := bne_eq_false_iff_eq.mpr c49
                    clear c49
                    replace H := Option.bind_eq_some_iff.mp H
                    obtain ⟨t275, A500, H⟩ := H
                    replace H : (some t275) = some r := H
                    have A50 := Aside0.mk A500
                    clear A500
                    obtain rfl := Option.some.inj H
                    go_wp2_with (first | ((with_reducible refine gate_callee (f := 34) rfl ?_); refine goesL_ (some 64) rfl rfl Try.func34 (by kernel_rfl) rfl #[.int .u64 a3] rfl (by (try simp only [List.map_toArray, List.map_cons, List.map_nil]); first | done | rfl | (simp only [List.length_drop, List.length_take]; rfl)) ?_; (with_reducible refine (num_IsInt.calls a3 false _ A33.out).mono ?_); rintro e w' ⟨rfl, ⟨nd, rfl⟩⟩; refine ⟨_, rfl, ?_⟩) | (go_at_call 34; (with_reducible refine (num_IsInt.calls a3 false _ A44.out).mono ?_); rintro e w' ⟨rfl, ⟨nd, rfl⟩⟩) | (go_at_call 36; (with_reducible refine (num_IsPtr.calls a3 true _ A45.out).mono ?_); rintro e w' ⟨rfl, ⟨nd, rfl⟩⟩) | (go_at_call 40; (with_reducible refine (num_ToPtr.calls a3 t273 _ A47.out).mono ?_); rintro e w' ⟨rfl, ⟨nd, rfl⟩⟩) | (go_at_call 32; (with_reducible refine (num_Ptr.calls t273 t274 _ A48.out).mono ?_); rintro e w' ⟨rfl, ⟨nd, rfl⟩⟩) | (go_at_call 19; (with_reducible refine (kindlinglaw01_known.calls  t275 _ A50.out).mono ?_); rintro e w51 ⟨rfl, hb⟩; have n0_ := Aside0.mk (below_step (by repeat (first | (with_reducible first | exact HB.out | apply below_alloc | apply pw_below_drewN | apply below_drew1) | exact HB.out)) hb); clear HB; have HB := n0_; clear n0_; (try clear hb); (try clear hb2); (try clear hk); (try clear hi)))
                    go_ret
                    exact ⟨by first | rfl | (simp [errW_none, errW_some] <;> rfl) | (simp [*, errW_none, errW_some] <;> rfl), by repeat (first | (with_reducible first | exact HB.out | apply below_alloc | apply pw_below_drewN | apply below_drew1) | exact HB.out)⟩
                  · rw [if_neg c49] at H
                    have c49b0 : (t274 == a3) = false := beq_eq_false_iff_ne.mpr c49
                    have c49b1 : (t274 != a3) = true := bne_iff_ne.mpr c49
                    obtain rfl := Option.some.inj H
                    go_wp2_with (first | ((with_reducible refine gate_callee (f := 34) rfl ?_); refine goesL_ (some 64) rfl rfl Try.func34 (by kernel_rfl) rfl #[.int .u64 a3] rfl (by (try simp only [List.map_toArray, List.map_cons, List.map_nil]); first | done | rfl | (simp only [List.length_drop, List.length_take]; rfl)) ?_; (with_reducible refine (num_IsInt.calls a3 false _ A33.out).mono ?_); rintro e w' ⟨rfl, ⟨nd, rfl⟩⟩; refine ⟨_, rfl, ?_⟩) | (go_at_call 34; (with_reducible refine (num_IsInt.calls a3 false _ A44.out).mono ?_); rintro e w' ⟨rfl, ⟨nd, rfl⟩⟩) | (go_at_call 36; (with_reducible refine (num_IsPtr.calls a3 true _ A45.out).mono ?_); rintro e w' ⟨rfl, ⟨nd, rfl⟩⟩) | (go_at_call 40; (with_reducible refine (num_ToPtr.calls a3 t273 _ A47.out).mono ?_); rintro e w' ⟨rfl, ⟨nd, rfl⟩⟩) | (go_at_call 32; (with_reducible refine (num_Ptr.calls t273 t274 _ A48.out).mono ?_); rintro e w' ⟨rfl, ⟨nd, rfl⟩⟩))
                    go_ret
                    exact ⟨by first | rfl | (simp [errW_none, errW_some] <;> rfl) | (simp [*, errW_none, errW_some] <;> rfl), by repeat (first | (with_reducible first | exact HB.out | apply below_alloc | apply pw_below_drewN | apply below_drew1) | exact HB.out)⟩
                · replace c46 := Bool.eq_false_iff.mpr c46
                  subst c46
                  have H1 : ((kindlinglaw01_known.f).bind fun t276 => (some t276)) = some r := by rw [if_neg (show ¬ (false = true) by decide)] at H; exact H
                  clear H
                  have H := H1
                  clear H1
                  replace H := Option.bind_eq_some_iff.mp H
                  obtain ⟨t276, A520, H⟩ := H
                  replace H : (some t276) = some r := H
                  have A52 := Aside0.mk A520
                  clear A520
                  obtain rfl := Option.some.inj H
                  go_wp2_with (first | ((with_reducible refine gate_callee (f := 34) rfl ?_); refine goesL_ (some 64) rfl rfl Try.func34 (by kernel_rfl) rfl #[.int .u64 a3] rfl (by (try simp only [List.map_toArray, List.map_cons, List.map_nil]); first | done | rfl | (simp only [List.length_drop, List.length_take]; rfl)) ?_; (with_reducible refine (num_IsInt.calls a3 false _ A33.out).mono ?_); rintro e w' ⟨rfl, ⟨nd, rfl⟩⟩; refine ⟨_, rfl, ?_⟩) | (go_at_call 34; (with_reducible refine (num_IsInt.calls a3 false _ A44.out).mono ?_); rintro e w' ⟨rfl, ⟨nd, rfl⟩⟩) | (go_at_call 36; (with_reducible refine (num_IsPtr.calls a3 false _ A45.out).mono ?_); rintro e w' ⟨rfl, ⟨nd, rfl⟩⟩) | (go_at_call 19; (with_reducible refine (kindlinglaw01_known.calls  t276 _ A52.out).mono ?_); rintro e w53 ⟨rfl, hb⟩; have n0_ := Aside0.mk (below_step (by repeat (first | (with_reducible first | exact HB.out | apply below_alloc | apply pw_below_drewN | apply below_drew1) | exact HB.out)) hb); clear HB; have HB := n0_; clear n0_; (try clear hb); (try clear hb2); (try clear hk); (try clear hi)))
                  go_ret
                  exact ⟨by first | rfl | (simp [errW_none, errW_some] <;> rfl) | (simp [*, errW_none, errW_some] <;> rfl), by repeat (first | (with_reducible first | exact HB.out | apply below_alloc | apply pw_below_drewN | apply below_drew1) | exact HB.out)⟩

/-- THE ONE PURE STATEMENT of kindlinglaw01_NumApart: yours. -/
def kindlinglaw01_NumApart.Pure : Prop := ∀ (a0 : Int) (a1 : Int) (a2 : Int) (a3 : Int), (Lit.int .i64 a0).wf = true → (Lit.int .i64 a1).wf = true → (Lit.int .i64 a2).wf = true → (Lit.int .u64 a3).wf = true → ∃ k, kindlinglaw01_NumApart.f k a0 a1 a2 a3 = some true
theorem kindlinglaw01_NumApart.walk (P : kindlinglaw01_NumApart.Pure) (a0 : Int) (a1 : Int) (a2 : Int) (a3 : Int) (w : World) (w0 : (Lit.int .i64 a0).wf = true) (w1 : (Lit.int .i64 a1).wf = true) (w2 : (Lit.int .i64 a2).wf = true) (w3 : (Lit.int .u64 a3).wf = true) :
    Calls Try.prog 9 #[.int .i64 a0, .int .i64 a1, .int .i64 a2, .int .u64 a3] w fun e w' => e = .returned (.bool true) ∧ Below w.heap.size w w' := by
  obtain ⟨k, h⟩ := P a0 a1 a2 a3 w0 w1 w2 w3
  refine (kindlinglaw01_NumApart.calls k a0 a1 a2 a3 true w h).mono ?_
  rintro e w' ⟨rfl, hd⟩
  exact ⟨rfl, hd⟩

end Go.Proofs.Ytljbkonhailamaa.Pr
