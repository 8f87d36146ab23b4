/- Words in new memory with a mark behind them (kindlingref01.Lent), and whether they are as they were (kindlingref01.Kept): the walks, out of the printed ones. -/
import Derived.Test.YtljbkonhailamaaPr5
namespace Go.Proofs.Ytljbkonhailamaa.Lt
open Go.RowKit Go.Proofs.YtljbkonhailamaaW.PrintWords Go.Proofs.YtljbkonhailamaaW.PrintLast Go.Proofs.YtljbkonhailamaaW.PrintMore Go.Proofs.Ytljbkonhailamaa.Pr
attribute [local go_sem] max2_int min2_int max_two min_two max_three min_three max_four min_four
set_option linter.unusedVariables false
set_option linter.unusedSimpArgs false

theorem cut_up {P : Program} (t e : TypeId) (kh : IntKind) {i : TypeInfo} (ht : P.underlying t = some (.slice e)) (hi : P.info? e = some i) (A : Option Addr) (n c : Nat) (j : Int) (h0 : 0 ≤ j) (hm : j ≤ c) :
    ∀ W : World, (Instr.slice t (.slice A n c) none (some (.int kh j)) none).run P W = .ok (.slice A j.toNat c) W := by
  intro W
  have hel : P.elem t = e := by simp [Program.elem, ht]
  have hu : P.underlying t = some (.slice (P.elem t)) := by rw [hel]; exact ht
  have ha : (A.map fun x => x.add 0) = A := by cases A <;> simp [Addr.add]
  rw [run_slice_h W t A n c hu kh j h0 (by omega), hel]
  simp [sizeOf, typeInfo, hi, sliced, Result.andThen, ha]

set_option maxHeartbeats 8000000 in
set_option maxRecDepth 100000 in
theorem lent_any (A0 : Option Addr) (c0 : Nat) (l0 : List Int) (w : World) (hr0 : Kd.C (Kd.int .u64) w A0 l0.length l0) (hc0 : l0.length ≤ c0) (hl : l0.length ≤ 17592186044000) :
    Calls Try.prog 43 #[.slice A0 l0.length c0] w fun e w' => ∃ (A : Option Addr) (cap : Nat), e = .returned (.slice A l0.length cap) ∧ Kd.R (Kd.int .u64) 25 w' w.heap.size (fun _ => True) (.slice A (l0.length + 1) cap) (l0 ++ [71]) ∧ Below w.heap.size w w' := by
  have HR0 := Aside0.mk hr0
  have HC0 := Aside0.mk hc0
  clear hr0 hc0
  have HB := Aside0.mk (Below.refl w.heap.size w)
  have LMc2 : Aside0 (([] : List Int).length + l0.length < 17592186044416) := Aside0.mk (by simp only [List.length_nil]; omega)
  obtain ⟨y101, hy101⟩ : ∃ y_ : List Int, y_ = (([] : List Int) ++ l0) := ⟨_, rfl⟩
  have Ny101 := Aside0.mk hy101
  have LMc3 : Aside0 (y101.length < 17592186044416) := Aside0.mk (by rw [hy101]; simp only [List.nil_append]; omega)
  clear hy101
  obtain ⟨y104, hy104⟩ : ∃ y_ : List Int, y_ = (y101 ++ [71]) := ⟨_, rfl⟩
  have Ny104 := Aside0.mk hy104
  clear hy104
  go_enter Try.func43, Try.ntmps43
  go_wp2_with (first | ((with_reducible refine gate_builtin (b := .append) (xs := #[.tmp 4, .tmp 5]) rfl ?_); at_builtin; refine Kd.R_append_rows (Kd.int .u64) (w0 := w) w.heap.size rfl (.tmp 4) (.tmp 5) 39 25 (.int .u64 0) 8 rfl Try.underlying39 Num.info25 rfl (by decide) (by omega) (.slice none 0 0) ([] : List Int) l0 _ _ _ (fun _ => True) (fun _ => False) rfl rfl ?aO ?aR (fun _ _ h => h) (fun _ h => h.elim) ?aF ?aB ?aS ?aL ?_; (case aR => repeat (first | exact HR0.out | (with_reducible refine Kd.C_alloc ?_ _) | (with_reducible refine Kd.C_drewN ?_ _) | (with_reducible refine Kd.C_drew ?_))); (case aB => exact (by repeat (first | (with_reducible first | exact HB.out | apply below_alloc | apply pw_below_drewN | apply below_drew1) | exact HB.out))); (case aF => exact (fun _ _ => trivial)); (case aO => exact ((Kd.R_nil _ _ _ _ (fun _ => True)))); (case aS => exact (below_size (by repeat (first | (with_reducible first | exact HB.out | apply below_alloc | apply pw_below_drewN | apply below_drew1) | exact HB.out)))); (case aL => have := LMc2.out; omega); intro v102 w6 ho hb hg hat; rw [← Ny101.out] at ho; have n0_ := Aside0.mk (hb); have n1_ := Aside0.mk (ho); clear HB; have HB := n0_; have HO103 := n1_; clear n0_ n1_; clear ho hb hg hat) | ((with_reducible refine gate_builtin (b := .append) (xs := #[.tmp 7, .tmp 8]) rfl ?_); at_builtin; refine Kd.R_append (Kd.int .u64) (w0 := w) w.heap.size rfl (.tmp 7) (.tmp 8) 39 25 (.int .u64 0) 8 rfl Try.underlying39 Num.info25 rfl (by decide) (by omega) v102 y101 71 [.int .u64 71] (fun _ => True) (fun _ => False) rfl rfl ?aP (fun _ hk => hk.elim) ?aF ?aO ?aB ?aS ?aL ?_; (case aP => exact rfl); (case aB => exact (by repeat (first | (with_reducible first | exact HB.out | apply below_alloc | apply pw_below_drewN | apply below_drew1) | exact HB.out))); (case aF => exact (fun _ _ => trivial)); (case aO => exact (by (with_reducible repeat (first | apply Kd.R_alloc | apply Kd.R_drewN | apply Kd.R_drew)); exact HO103.out)); (case aS => exact (below_size (by repeat (first | (with_reducible first | exact HB.out | apply below_alloc | apply pw_below_drewN | apply below_drew1) | exact HB.out)))); (case aL => have := LMc3.out; omega); intro v105 w7 ho hb hg hat; rw [← Ny104.out] at ho; have n0_ := Aside0.mk (hb); have n1_ := Aside0.mk (ho); clear HB; clear HO103; have HB := n0_; have HO106 := n1_; clear n0_ n1_; clear ho hb hg hat; obtain ⟨Ao8, co8, eo8⟩ := Kd.R_slice HO106.out; subst eo8; obtain ⟨i09, hi09, _, hsz9, _⟩ := info_parts Num.info25; have hy9 : (l0.length : Int) ≤ (y104.length : Int) := (by rw [Ny104.out, Ny101.out]; simp; omega); have hcut9 := cut_to (P := Try.prog) 39 25 .i64 Try.underlying39 hi09 Ao8 y104.length co8 (l0.length : Int) (by omega) hy9 (Kd.R_reads' HO106.out).2.1; rw [Int.toNat_natCast] at hcut9))
  go_ret
  exact ⟨_, _, rfl, by
    have h := HO106.out
    have hy : y104.length = l0.length + 1 := by rw [Ny104.out, Ny101.out]; simp
    rw [hy] at h
    rw [Ny104.out, Ny101.out, List.nil_append] at h
    exact h, by repeat (first | (with_reducible first | exact HB.out | apply below_alloc | apply pw_below_drewN | apply below_drew1) | exact HB.out)⟩

set_option maxHeartbeats 8000000 in
set_option maxRecDepth 100000 in
theorem kept_any (A0 : Option Addr) (c0 : Nat) (l0 : List Int) (A1 : Option Addr) (c1 : Nat) (w : World) (hr0 : Kd.C (Kd.int .u64) w A0 (l0.length + 1) (l0 ++ [71])) (hc0 : l0.length + 1 ≤ c0) (hr1 : Kd.C (Kd.int .u64) w A1 l0.length l0) (hc1 : l0.length ≤ c1) (hc2 : c0 ≤ maxLen) (k : Nat) (h : kindlingref01_SameWords.f k l0 l0 = some true) (hl : l0.length ≤ 17592186044000) :
    Calls Try.prog 49 #[.slice A0 l0.length c0, .slice A1 l0.length c1] w fun e w' => e = .returned (.bool true) ∧ Drawn0 w w' := by
  obtain ⟨x0, hx0⟩ : ∃ x_ : List Int, x_ = l0 ++ [71] := ⟨_, rfl⟩
  have hx1 : x0.length = l0.length + 1 := by rw [hx0]; simp
  have hx2 : rd x0 (l0.length : Int) = 71 := by rw [hx0]; simp [rd, rdOf]
  have HRl := Aside0.mk (Kd.C_take (m := l0.length) (k := Kd.int .u64) (by rw [List.length_append]; exact hr0) (by simp))
  have ht : (l0 ++ [71]).take l0.length = l0 := by simp
  rw [ht] at HRl
  have HCl := Aside0.mk (show l0.length ≤ c0 by omega)
  rw [← hx0, ← hx1] at hr0
  have HR112 := Aside0.mk hr0
  have HR1 := Aside0.mk hr1
  have HC1 := Aside0.mk hc1
  have A6 := Aside0.mk h
  clear hr0 hr1 hc1 h
  obtain ⟨ji3, hji3⟩ : ∃ j_ : Int, (wrap64 ((l0.length : Int) + 1)) = j_ := ⟨_, rfl⟩
  have hji3w : (IntKind.i64.wrap ((l0.length : Int) + 1)) = ji3 := (i64_w _).trans hji3
  have hj : ji3 = (l0.length : Int) + 1 := by rw [← hji3]; unfold wrap64; omega
  obtain ⟨i010, hi010, _, hsz10, _⟩ := info_parts Num.info25
  have hcut10 := cut_up (P := Try.prog) 39 25 .i64 Try.underlying39 hi010 A0 l0.length c0 ji3 (by omega) (by omega)
  have hjn : ji3.toNat = x0.length := by omega
  rw [hjn] at hcut10
  have c8b0 : decide (0 ≤ (l0.length : Int)) = true := decide_eq_true (by omega)
  have c8b1 : decide (0 ≤ l0.length) = true := decide_eq_true (by omega)
  have c9b0 : decide ((l0.length : Int) < (x0.length : Int)) = true := decide_eq_true (by omega)
  have c9b1 : decide (l0.length < x0.length) = true := decide_eq_true (by omega)
  have hHx2 := Aside0.mk hx2
  clear hx2 hj hjn hx1 hx0 ht hi010 hsz10 hl hc2 hc0
  go_enter Try.func49, Try.ntmps49
  go_wp2_with (first | ((with_reducible refine gate_callee (f := 47) rfl ?_); refine goesL_ (some 13) rfl rfl Try.func47 (by kernel_rfl) rfl #[.slice A0 l0.length c0, .slice A1 l0.length c1] rfl (by (try simp only [List.map_toArray, List.map_cons, List.map_nil]); first | done | rfl | (simp only [List.length_drop, List.length_take]; rfl)) ?_; (with_reducible refine (kindlingref01_SameWords.calls k _ _ l0 _ _ l0 true _ ?side1 ?side2 ?side3 ?side4 A6.out).mono ?_); (case side1 => repeat (first | exact HRl.out | (with_reducible refine Kd.C_alloc ?_ _) | (with_reducible refine Kd.C_drewN ?_ _) | (with_reducible refine Kd.C_drew ?_))); (case side2 => exact HCl.out); (case side3 => repeat (first | exact HR1.out | (with_reducible refine Kd.C_alloc ?_ _) | (with_reducible refine Kd.C_drewN ?_ _) | (with_reducible refine Kd.C_drew ?_))); (case side4 => exact HC1.out); rintro e w' ⟨rfl, ⟨nd, rfl⟩⟩; refine ⟨_, rfl, ?_⟩; have p114 : 0 ≤ ((l0.length : Int) : Int) := of_decide_eq_true (by first | (with_reducible assumption) | assumption); have q114 : (l0.length : Int) < (x0.length : Int) := of_decide_eq_true (by first | (with_reducible assumption) | assumption); obtain ⟨ad114, e114, hx114_0⟩ := Kd.at_int HR112.out (l0.length : Int) p114 q114; cases e114; (try simp only [Go.IntWalk.toNatUp] at hx114_0); replace p114 := eq_true p114; replace q114 := eq_true q114))
  go_ret
  exact ⟨by rw [hHx2.out]; rfl, by repeat (first | exact Drawn0.refl _ | apply Drawn0.step)⟩
end Go.Proofs.Ytljbkonhailamaa.Lt
