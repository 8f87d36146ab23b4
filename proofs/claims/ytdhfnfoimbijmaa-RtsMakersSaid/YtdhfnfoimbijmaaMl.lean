/- The constructors from the beginning are those that the document names, in new memory: the walk of the law RtsMakers. -/
import Derived.Test.YtdhfnfoimbijmaaSm
import Derived.Test.YtdhfnfoimbijmaaMr
namespace Go.Proofs.Ytdhfnfoimbijmaa.Mk
open Go.RowKit Go.Proofs.YtdhfnfoimbijmaaW.PrintWords Go.Proofs.YtdhfnfoimbijmaaW.PrintLast Go.Proofs.YtdhfnfoimbijmaaW.PrintMore Pa
set_option linter.unusedSimpArgs false
set_option linter.unusedVariables false
theorem same_all : Pa.kindlingref05_SameMakers.f 60 (mks 6) (mks 6) = some true := by
  simp [kindlingref05_SameMakers.f, kindlingref05_SameMakers.l0, kindlingref05_SameType.f, kindlingref05_SameType.l0, kindlingref05_SameType.j0, mks, m0, m1, m2, m3, mx, lst, tup, exn, tru, one, z26, rd_T28, rd_T26, List.range_succ, wrap64]
/-- A row of types that may be written. -/
def Row (W : World) (b : Nat) (A : Option Addr) (n : Nat) : Prop := n = 0 ∨ ∃ g cur, A = some ⟨g, 0, none⟩ ∧ b ≤ g ∧ W.heap[g]? = some (.cells cur 26 (0, 0)) ∧ n * 4 ≤ cur.size
theorem Row.set {W : World} {b : Nat} {A : Option Addr} {n : Nat} (h : Row W b A n) (g i : Nat) (u : Value) : Row (W.setCell ⟨g, i, none⟩ u) b A n := by
  rcases h with h | ⟨q, cur, hA, hb, hh, hn⟩
  · exact .inl h
  · by_cases e : q = g
    · subst e
      exact .inr ⟨q, _, hA, hb, blk_set hh i u, by simpa using hn⟩
    · exact .inr ⟨q, cur, hA, hb, blk_far hh (p := ⟨g, i, none⟩) e u, hn⟩
/-- The makers that are spoilt. -/
def Spoil (W : World) (b g : Nat) : Prop := b ≤ g ∧ ∃ cur : Array Value, W.heap[g]? = some (.cells cur 28 (0, 0)) ∧ 120 ≤ cur.size ∧
  ∀ i, i < 10 → ∃ A n c A' n' c', cur[i * 12 + 7]? = some (.slice A n c) ∧ cur[i * 12 + 11]? = some (.slice A' n' c') ∧ n ≤ 9223372036854775807 ∧ n' ≤ 9223372036854775807 ∧ Row W b A n ∧ Row W b A' n'
theorem Spoil.name {W : World} {b g : Nat} (h : Spoil W b g) (i : Nat) (u : Value) : Spoil (W.setCell ⟨g, i * 12, none⟩ u) b g := by
  obtain ⟨hb, cur, hh, hs, hr⟩ := h
  refine ⟨hb, _, blk_set hh _ u, by simpa using hs, fun j hj => ?_⟩
  obtain ⟨A, n, c, A', n', c', h1, h2, h3, h4, h5, h6⟩ := hr j hj
  refine ⟨A, n, c, A', n', c', ?_, ?_, h3, h4, h5.set _ _ _, h6.set _ _ _⟩
  · rw [Array.getElem?_setIfInBounds_ne (by omega)]; exact h1
  · rw [Array.getElem?_setIfInBounds_ne (by omega)]; exact h2
theorem Spoil.row {W : World} {b g : Nat} (h : Spoil W b g) {q : Nat} {cur' : Array Value} (hq : W.heap[q]? = some (.cells cur' 26 (0, 0))) (i : Nat) (u : Value) : Spoil (W.setCell ⟨q, i, none⟩ u) b g := by
  obtain ⟨hb, cur, hh, hs, hr⟩ := h
  have hne : g ≠ q := blk_ne hh hq (by decide)
  refine ⟨hb, cur, blk_far hh (p := ⟨q, i, none⟩) hne u, hs, fun j hj => ?_⟩
  obtain ⟨A, n, c, A', n', c', h1, h2, h3, h4, h5, h6⟩ := hr j hj
  exact ⟨A, n, c, A', n', c', h1, h2, h3, h4, h5.set _ _ _, h6.set _ _ _⟩
theorem Row.of_R {W : World} {b : Nat} {ok : Nat → Prop} {A : Option Addr} {n c : Nat} {xs : List S26} (h : k26.R 26 W b ok (.slice A n c) xs) : Row W b A n ∧ n ≤ 9223372036854775807 := by
  obtain ⟨hn, hc, hC⟩ := Kd.R_reads' h
  refine ⟨?_, by have := hC.2.1; omega⟩
  by_cases h0 : n = 0
  · exact .inl h0
  · obtain ⟨g, cap, e, hb, hg, cells, hh⟩ := Kd.R_form h (by omega)
    injection e with e1 e2 e3
    obtain ⟨inner, ho⟩ := Kd.R_own h
    refine .inr ⟨g, cells, e1, hb, hh, ?_⟩
    rcases ho.2 with ⟨hv, _⟩ | ⟨g', cap', cur, hv, hb2, hh2, hnc, hcm, hcs, _⟩
    · cases hv; omega
    · injection hv with a1 a2 a3
      rw [e1] at a1
      injection a1 with a1
      injection a1 with a1
      subst a1
      rw [hh] at hh2
      injection hh2 with hh2
      injection hh2 with hh2
      subst hh2
      have hsz : k26.sz = 4 := rfl
      rw [hsz] at hcs
      have : xs.length * 4 ≤ cap' * 4 := Nat.mul_le_mul_right _ (by omega)
      omega
theorem Spoil.start {W : World} {b : Nat} {ok : Nat → Prop} {g cap : Nat} (h : k28.R 28 W b ok (.slice (some ⟨g, 0, none⟩) 10 cap) (mks 6)) : Spoil W b g := by
  obtain ⟨inner, ho⟩ := Kd.R_own h
  have hbg : b ≤ g := Kd.R_base h g (by simp [Value.ownBlock])
  rcases ho.2 with ⟨hv, _⟩ | ⟨g', cap', cur, hv, hb2, hh2, hnc, hcm, hcs, _⟩
  · cases hv
  injection hv with a1 a2 a3
  injection a1 with a1
  injection a1 with a1
  subst a1
  have hsz : k28.sz = 12 := rfl
  have hl : (mks 6).length = 10 := by simp [mks_len]
  rw [hsz] at hcs
  refine ⟨hbg, cur, hh2, by have : 10 * 12 ≤ cap' * 12 := Nat.mul_le_mul_right _ (by omega); omega, fun i hi => ?_⟩
  obtain ⟨c, hcl, hM, hcc, -⟩ := Kd.R_elem h z28 (i : Int) (by omega) (by omega)
  obtain ⟨v7, v11, rfl, r7, r11⟩ := k28_openM hM
  obtain ⟨A, n, rfl⟩ := Kd.R_slice r7
  obtain ⟨A', n', rfl⟩ := Kd.R_slice r11
  have h7 := hcc 7 _ rfl
  have h11 := hcc 11 _ rfl
  rw [hsz, Int.toNat_natCast, blk_cell hh2] at h7 h11
  exact ⟨_, _, _, _, _, _, h7, h11, (Row.of_R r7).2, (Row.of_R r11).2, (Row.of_R r7).1, (Row.of_R r11).1⟩
set_option maxRecDepth 100000 in
set_option maxHeartbeats 4000000 in
theorem makers_walk (w : World) : Calls Try.prog 3 #[] w fun e w' => e = .returned (.bool true) ∧ Below w.heap.size w w' := by
  have hu26 := Try.underlying26
  have hu28 := Try.underlying28
  go_enter Try.func3, Try.ntmps3
  go_wp2_with fail
  (with_reducible refine Calls.mono (makers w) ?_)
  rintro e w1 ⟨v, rfl, hR, hB⟩
  obtain ⟨g, cap, rfl, -, -, -⟩ := Kd.R_form hR (by rw [mks_len]; omega)
  rw [mks_len] at hR ⊢
  have hS := Spoil.start hR
  clear hR
  go_wp2_with fail
  go_loopw [2] (fun i wr => ∃ k : Nat, k ≤ 10 ∧ i = .int .i64 (k : Int) ∧ Spoil wr w.heap.size g ∧ Below w.heap.size w wr) (fun i _ => 10 - (intOf i).toNat)
  case atStart => exact ⟨0, by omega, rfl, hS, hB⟩
  case round =>
    clear hS hB
    obtain ⟨k, hk, rfl, hS, hB⟩ := hrel
    by_cases h10 : k < 10
    · have d1 : decide ((k : Int) < 10) = true := decide_eq_true (by omega)
      have d0 : decide (0 ≤ (k : Int)) = true := decide_eq_true (by omega)
      obtain ⟨hbg, cur, hh, hs, hr⟩ := id hS
      obtain ⟨x0, hn⟩ : ∃ x0, wr.cell? ⟨g, k * 12, none⟩ = some x0 := ⟨_, (blk_cell hh (k * 12)).trans (Array.getElem?_eq_getElem (by omega))⟩
      have hf : wr.frozen? ⟨g, k * 12, none⟩ = false := blk_frozen hh _
      have HS := Aside0.mk (hS.name k (.string ⟨#[115, 112, 111, 105, 108, 116]⟩))
      have HB := Aside0.mk (below_set (j := k * 12) (v := .string ⟨#[115, 112, 111, 105, 108, 116]⟩) hB hbg)
      clear hS hB hh hs hr
      go_wp2_with fail
      clear hn hf
      go_loopw [3] (fun j wq => ∃ t : Nat, j = .int .i64 (t : Int) ∧ t ≤ 9223372036854775807 ∧ Spoil wq w.heap.size g ∧ Below w.heap.size w wq) (fun j wq => (match wq.cell? ⟨g, k * 12 + 11, none⟩ with | some (.slice _ n _) => n | _ => 0) - (intOf j).toNat)
      case atStart => exact ⟨0, rfl, by omega, HS.out, HB.out⟩
      case round =>
        clear HS HB
        obtain ⟨t, rfl, ht, hS, hB⟩ := hrel
        obtain ⟨-, cur, hh, hs, hr⟩ := id hS
        obtain ⟨A, n, c, A', n', c', h1, h2, h3, h4, h5, h6⟩ := hr k h10
        have e7 : wr.cell? ⟨g, k * 12 + 11, none⟩ = some (.slice A' n' c') := (blk_cell hh _).trans h2
        by_cases htn : t < n'
        · have d2 : decide ((t : Int) < (n' : Int)) = true := decide_eq_true (by omega)
          have d3 : decide (0 ≤ (t : Int)) = true := decide_eq_true (by omega)
          rcases h6 with h6 | ⟨q, cur', rfl, hbq, hq, hqs⟩
          · omega
          have hne : g ≠ q := blk_ne hh hq (by decide)
          have e8 : (wr.setCell ⟨q, t * 4 + 1, none⟩ (.int .i64 77)).cell? ⟨g, k * 12 + 11, none⟩ = some (.slice (some ⟨q, 0, none⟩) n' c') := (blk_cell (blk_far hh (p := ⟨q, t * 4 + 1, none⟩) hne _) _).trans h2
          have E8 := Aside0.mk e8
          obtain ⟨x1, hn⟩ : ∃ x0, wr.cell? ⟨q, t * 4 + 1, none⟩ = some x0 := ⟨_, (blk_cell hq (t * 4 + 1)).trans (Array.getElem?_eq_getElem (by omega))⟩
          have hf : wr.frozen? ⟨q, t * 4 + 1, none⟩ = false := blk_frozen hq _
          have HS := Aside0.mk (hS.row hq (t * 4 + 1) (.int .i64 77))
          have HB := Aside0.mk (below_set (j := t * 4 + 1) (v := .int .i64 77) hB hbq)
          clear hS hB hh h5 hq hr h1 h2 hs hne e8
          go_wp2_with fail
          refine ⟨⟨t + 1, by simp, by omega, HS.out, HB.out⟩, ?_⟩
          rw [E8.out, e7]
          simp [intOf]
          omega
        · have d2 : decide ((t : Int) < (n' : Int)) = false := decide_eq_false (by omega)
          have HS := Aside0.mk hS
          have HB := Aside0.mk hB
          clear hS hB hh h5 h6 hr h1 h2 hs
          go_wp2_with fail
          clear e7 d2
          go_loopw [4] (fun j wq => ∃ t : Nat, j = .int .i64 (t : Int) ∧ t ≤ 9223372036854775807 ∧ Spoil wq w.heap.size g ∧ Below w.heap.size w wq) (fun j wq => (match wq.cell? ⟨g, k * 12 + 7, none⟩ with | some (.slice _ n _) => n | _ => 0) - (intOf j).toNat)
          case atStart => exact ⟨0, rfl, by omega, HS.out, HB.out⟩
          case round =>
            clear HS HB
            obtain ⟨t, rfl, ht, hS, hB⟩ := hrel
            obtain ⟨-, cur, hh, hs, hr⟩ := id hS
            obtain ⟨A, n, c, A', n', c', h1, h2, h3, h4, h5, h6⟩ := hr k h10
            have e7 : wr.cell? ⟨g, k * 12 + 7, none⟩ = some (.slice A n c) := (blk_cell hh _).trans h1
            by_cases htn : t < n
            · have d2 : decide ((t : Int) < (n : Int)) = true := decide_eq_true (by omega)
              have d3 : decide (0 ≤ (t : Int)) = true := decide_eq_true (by omega)
              rcases h5 with h5 | ⟨q, cur', rfl, hbq, hq, hqs⟩
              · omega
              have hne : g ≠ q := blk_ne hh hq (by decide)
              have e8 : (wr.setCell ⟨q, t * 4 + 2, none⟩ (.string ⟨#[115, 112, 111, 105, 108, 116]⟩)).cell? ⟨g, k * 12 + 7, none⟩ = some (.slice (some ⟨q, 0, none⟩) n c) := (blk_cell (blk_far hh (p := ⟨q, t * 4 + 2, none⟩) hne _) _).trans h1
              have E8 := Aside0.mk e8
              obtain ⟨x1, hn⟩ : ∃ x0, wr.cell? ⟨q, t * 4 + 2, none⟩ = some x0 := ⟨_, (blk_cell hq (t * 4 + 2)).trans (Array.getElem?_eq_getElem (by omega))⟩
              have hf : wr.frozen? ⟨q, t * 4 + 2, none⟩ = false := blk_frozen hq _
              have HS := Aside0.mk (hS.row hq (t * 4 + 2) (.string ⟨#[115, 112, 111, 105, 108, 116]⟩))
              have HB := Aside0.mk (below_set (j := t * 4 + 2) (v := .string ⟨#[115, 112, 111, 105, 108, 116]⟩) hB hbq)
              clear hS hB hh h6 hq hr h1 h2 hs hne e8
              go_wp2_with fail
              refine ⟨⟨t + 1, by simp, by omega, HS.out, HB.out⟩, ?_⟩
              rw [E8.out, e7]
              simp [intOf]
              omega
            · have d2 : decide ((t : Int) < (n : Int)) = false := decide_eq_false (by omega)
              have HS := Aside0.mk hS
              have HB := Aside0.mk hB
              clear hS hB hh h5 h6 hr h1 h2 hs
              go_wp2_with fail
              exact ⟨⟨k + 1, by omega, by simp, HS.out, HB.out⟩, by simp [intOf]; omega⟩
    · obtain rfl : k = 10 := by omega
      have d1 : decide (((10 : Nat) : Int) < 10) = false := rfl
      clear hS
      go_wp2_with fail
      (with_reducible refine Calls.mono (makers wr) ?_)
      rintro e w2 ⟨v2, rfl, hR2, hb2⟩
      obtain ⟨A2, c2, rfl⟩ := Kd.R_slice hR2
      rw [mks_len] at hR2 ⊢
      have hB2 := below_step hB hb2
      clear hB hb2
      go_wp2_with fail
      (with_reducible refine Calls.mono (makers_ref w2) ?_)
      rintro e w3 ⟨v3, rfl, hR3, hb3⟩
      obtain ⟨A3, c3, rfl⟩ := Kd.R_slice hR3
      rw [mks_len] at hR3 ⊢
      replace hR2 := Kd.R_below hR2 hb3
      have hB3 := below_step hB2 hb3
      clear hB2 hb3
      go_wp2_with fail
      have hc2 := Kd.R_reads' hR2
      have hc3 := Kd.R_reads' hR3
      have hsm := Pa.kindlingref05_SameMakers.alike 60 A2 c2 (mks 6) A3 c3 (mks 6) true rfl w3 hc2.2.2 (by rw [mks_len]; omega) hc3.2.2 (by rw [mks_len]; omega) same_all
      rw [mks_len] at hsm
      (with_reducible refine Calls.mono hsm ?_)
      rintro e w4 ⟨rfl, hb4⟩
      have hB4 := below_step hB3 hb4
      clear hB3 hb4 hsm hc2 hc3 hR2 hR3
      go_wp2_with fail
      (with_reducible refine Calls.mono (Mem.known5 w4) ?_)
      rintro e w5 ⟨rfl, hb5⟩
      have hB5 := below_step hB4 hb5
      clear hB4 hb5
      go_wp2_with fail
      go_ret
      exact ⟨rfl, hB5⟩
end Go.Proofs.Ytdhfnfoimbijmaa.Mk
