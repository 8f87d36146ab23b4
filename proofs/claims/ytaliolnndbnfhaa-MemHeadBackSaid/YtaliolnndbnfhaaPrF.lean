/- What the functions of headers compute, the program's and the reference's; the laws MemHeads and MemHeadBack. -/
import Derived.Test.YtaliolnndbnfhaaPr2
namespace Go.Proofs.Ytaliolnndbnfhaa.Pf
open Go.RowKit Go.Proofs.Ytaliolnndbnfhaa.Pr Go.Proofs.YtaliolnndbnfhaaW.PrintWords Go.Proofs.YtaliolnndbnfhaaW.PrintLast Go.Proofs.YtaliolnndbnfhaaW.PrintMore
open Hf (rightB hdr headOf partsOf right_parts parts_hdr or_low and_mask w64_of hdr_u64)
set_option linter.unusedVariables false
theorem right_f (n : Nat) (k s t : Int) : mem_right.f (n + 2) k s t = some (rightB k s t) := by
  have hbad : mem_right.j0 (n + 2) k s t true = some false := by simp only [mem_right.j0, if_true]
  unfold mem_right.f rightB
  by_cases h1 : s < 0
  · rw [if_pos h1, hbad, if_pos (.inl h1)]
  · rw [if_neg h1]
    by_cases h2 : s > 16384
    · rw [if_pos h2, hbad, if_pos (.inr (.inl h2))]
    · rw [if_neg h2]
      by_cases h3 : t < 0
      · rw [if_pos h3, hbad, if_pos (.inr (.inr (.inl h3)))]
      · rw [if_neg h3]
        by_cases h4 : t > s
        · rw [decide_eq_true h4, hbad, if_pos (.inr (.inr (.inr h4)))]
        · rw [decide_eq_false h4, if_neg (by omega)]
          simp only [mem_right.j0]
          rw [if_neg (by decide)]
          by_cases k1 : k = 1
          · rw [if_pos k1, if_pos (.inl k1)]
            simp only [mem_right.j1]
            rw [if_pos (by simpa using k1)]
            by_cases hs : s > 0
            · rw [if_pos hs, decide_eq_true (show 0 < s from hs), Bool.true_and]
            · rw [if_neg hs, decide_eq_false (show ¬ 0 < s from hs), Bool.false_and]
          · rw [if_neg k1]
            by_cases k3 : k = 3
            · rw [if_pos (.inr k3)]
              simp only [mem_right.j1]
              rw [if_pos (by simpa using k3)]
              by_cases hs : s > 0
              · rw [if_pos hs, decide_eq_true (show 0 < s from hs), Bool.true_and]
              · rw [if_neg hs, decide_eq_false (show ¬ 0 < s from hs), Bool.false_and]
            · rw [if_neg (show ¬ (k = 1 ∨ k = 3) by omega)]
              simp only [mem_right.j1]
              rw [if_neg (by simpa using k3)]
              by_cases k2 : k = 2
              · rw [if_pos k2, if_pos k2]
                by_cases hs : s = 1
                · rw [if_pos hs, hs]; rfl
                · rw [if_neg hs, beq_eq_false_iff_ne.2 hs, Bool.false_and]
              · rw [if_neg k2, if_neg k2]
                by_cases k4 : k = 4
                · rw [if_pos k4, if_pos k4]
                  by_cases hs : s > 0
                  · rw [if_pos hs, decide_eq_true (show 0 < s from hs), Bool.true_and]
                  · rw [if_neg hs, decide_eq_false (show ¬ 0 < s from hs), Bool.false_and]
                · rw [if_neg k4, if_neg k4]
theorem header_f (n : Nat) (k s t : Int) : mem_Header.f (n + 2) k s t = some (headOf k s t) := by
  unfold mem_Header.f headOf
  rw [right_f, Option.bind_some]
  by_cases h : rightB k s t = true
  · rw [if_pos h, if_pos h]
    obtain ⟨h1, h2, h3, h4, h5, h6⟩ := right_parts h
    congr 2
    simp only [IntKind.wrap_u64]
    rw [show k % 18446744073709551616 = k by omega, show s % 18446744073709551616 = s by omega, show t % 18446744073709551616 = t by omega, show k * 2 % 18446744073709551616 = k * 2 by omega,
      show s * 16 % 18446744073709551616 = s * 16 by omega, show t * 268435456 % 18446744073709551616 = t * 268435456 by omega]
    unfold hdr
    rw [or_low 1 1 (k * 2) (by omega) (by omega) (by omega) (by omega) (by omega) (by omega), or_low 4 _ (s * 16) (by omega) (by omega) (by omega) (by omega) (by omega) (by omega),
      or_low 28 _ (t * 268435456) (by omega) (by omega) (by omega) (by omega) (by omega) (by omega)]
    omega
  · rw [if_neg h, if_neg h]
theorem parts_f (n : Nat) (h : Int) (h0 : 0 ≤ h) (h1 : h < 18446744073709551616) : mem_Parts.f (n + 2) h = some (partsOf h) := by
  unfold mem_Parts.f partsOf
  rw [and_mask 3 7 rfl (by decide) (h / 2) (by omega) (by omega), and_mask 24 16777215 rfl (by decide) (h / 16) (by omega) (by omega), and_mask 24 16777215 rfl (by decide) (h / 268435456) (by omega) (by omega)]
  rw [show ((2 ^ 3 : Nat) : Int) = 8 from rfl, show ((2 ^ 24 : Nat) : Int) = 16777216 from rfl]
  rw [w64_of (n := h / 2 % 8) (by omega), w64_of (n := h / 16 % 16777216) (by omega), w64_of (n := h / 268435456 % 16777216) (by omega), header_f, Option.bind_some]
  generalize headOf (h / 2 % 8) (h / 16 % 16777216) (h / 268435456 % 16777216) = p
  obtain ⟨p1, p2⟩ := p
  show (if p2 = 0 then _ else _) = _
  by_cases e2 : p2 = 0
  · rw [if_pos e2]
    by_cases e1 : p1 = h
    · subst e1 e2; rw [if_pos rfl, if_pos rfl]
    · rw [if_neg (show ¬ (p1, p2).1 = h from e1), if_neg (by intro e; injection e with e _; exact e1 e)]
  · rw [if_neg e2, if_neg (by intro e; injection e with _ e; exact e2 e)]
theorem rright_f (n : Nat) (k s t : Int) : kindlingref02_Right.f (n + 2) k s t = some (rightB k s t) := by
  have hbad : kindlingref02_Right.j0 (n + 2) k s t true = some false := by simp only [kindlingref02_Right.j0, if_true]
  have no : ¬ (1 ≤ k ∧ k ≤ 5 ∧ 0 ≤ s ∧ s ≤ 16384 ∧ 0 ≤ t ∧ t ≤ s) → rightB k s t = false := fun h => by
    by_cases e : rightB k s t = true
    · exact absurd (right_parts e) h
    · exact Bool.eq_false_iff.2 e
  unfold kindlingref02_Right.f
  by_cases h1 : k < 1
  · rw [if_pos h1, hbad, no (by omega)]
  rw [if_neg h1]
  by_cases h2 : k > 5
  · rw [if_pos h2, hbad, no (by omega)]
  rw [if_neg h2]
  by_cases h3 : s < 0
  · rw [if_pos h3, hbad, no (by omega)]
  rw [if_neg h3]
  by_cases h4 : s > 16384
  · rw [if_pos h4, hbad, no (by omega)]
  rw [if_neg h4]
  by_cases h5 : t < 0
  · rw [if_pos h5, hbad, no (by omega)]
  rw [if_neg h5]
  by_cases h6 : t > s
  · rw [decide_eq_true h6, hbad, no (by omega)]
  rw [decide_eq_false h6]
  unfold rightB
  rw [if_neg (show ¬ (s < 0 ∨ s > 16384 ∨ t < 0 ∨ t > s) by omega)]
  simp only [kindlingref02_Right.j0]
  rw [if_neg (by decide)]
  by_cases k5 : k = 5
  · rw [if_pos k5, if_neg (by omega), if_neg (by omega), if_neg (by omega), k5]; rfl
  rw [if_neg k5]
  by_cases s0 : s = 0
  · rw [if_pos s0]
    simp only [kindlingref02_Right.j1, if_true]
    subst s0
    by_cases k1 : k = 1 ∨ k = 3
    · rw [if_pos k1]; rfl
    · rw [if_neg k1]
      by_cases k2 : k = 2
      · rw [if_pos k2]; rfl
      · rw [if_neg k2, if_pos (by omega)]; rfl
  rw [if_neg s0]
  have hs : decide (0 < s) = true := decide_eq_true (by omega)
  by_cases k2 : k = 2
  · rw [if_pos k2, if_neg (show ¬ (k = 1 ∨ k = 3) by omega), if_pos k2]
    simp only [kindlingref02_Right.j1]
    by_cases s1 : s = 1
    · rw [if_neg (by simp [s1]), if_neg (by omega), s1]; rfl
    · rw [if_pos (by simpa using s1), beq_eq_false_iff_ne.2 s1, Bool.false_and]
  rw [if_neg k2]
  simp only [kindlingref02_Right.j1]
  rw [if_neg (by decide)]
  by_cases k4 : k = 4
  · rw [if_pos k4, if_neg (show ¬ (k = 1 ∨ k = 3) by omega), if_neg k2, if_pos k4, hs, Bool.true_and]
  · rw [if_neg k4, if_pos (show k = 1 ∨ k = 3 by omega), hs, Bool.true_and]
theorem rheader_f (n : Nat) (k s t : Int) : kindlingref02_Header.f (n + 2) k s t = some (headOf k s t) := by
  unfold kindlingref02_Header.f headOf
  rw [rright_f, Option.bind_some]
  by_cases h : rightB k s t = true
  · rw [if_pos h, if_pos h]
    obtain ⟨h1, h2, h3, h4, h5, h6⟩ := right_parts h
    congr 2
    simp only [IntKind.wrap_u64]
    unfold hdr
    omega
  · rw [if_neg h, if_neg h]
theorem rparts_f (n : Nat) (h : Int) (h0 : 0 ≤ h) (h1 : h < 18446744073709551616) : kindlingref02_Parts.f (n + 2) h = some (partsOf h) := by
  unfold kindlingref02_Parts.f partsOf
  simp only [IntKind.wrap_u64]
  rw [Int.tdiv_eq_ediv_of_nonneg h0, Int.tdiv_eq_ediv_of_nonneg h0, Int.tdiv_eq_ediv_of_nonneg h0, show h / 2 % 18446744073709551616 = h / 2 by omega, show h / 16 % 18446744073709551616 = h / 16 by omega, show h / 268435456 % 18446744073709551616 = h / 268435456 by omega,
    Int.tmod_eq_emod_of_nonneg (by omega), Int.tmod_eq_emod_of_nonneg (by omega), Int.tmod_eq_emod_of_nonneg (by omega)]
  rw [w64_of (n := h / 2 % 8) (by omega), w64_of (n := h / 16 % 16777216) (by omega), w64_of (n := h / 268435456 % 16777216) (by omega), rheader_f, Option.bind_some]
  generalize headOf (h / 2 % 8) (h / 16 % 16777216) (h / 268435456 % 16777216) = p
  obtain ⟨p1, p2⟩ := p
  show (if p2 = 0 then _ else _) = _
  by_cases e2 : p2 = 0
  · rw [if_pos e2]
    by_cases e1 : p1 = h
    · subst e1 e2; rw [if_pos rfl, if_pos rfl]
    · rw [if_neg (show ¬ (p1, p2).1 = h from e1), if_neg (by intro e; injection e with e _; exact e1 e)]
  · rw [if_neg e2, if_neg (by intro e; injection e with _ e; exact e2 e)]
theorem wfu {n : Int} (h : (Lit.int .u64 n).wf = true) : 0 ≤ n ∧ n < 18446744073709551616 := by
  have h : 0 ≤ n ∧ n ≤ 18446744073709551615 := by simpa [Lit.wf, IntKind.min, IntKind.max, IntKind.signed, IntKind.bits] using h
  omega
theorem head_u64 (k s t : Int) : 0 ≤ (headOf k s t).1 ∧ (headOf k s t).1 < 18446744073709551616 := by
  unfold headOf
  split
  · rename_i h; exact hdr_u64 h
  · exact ⟨by decide, by decide⟩
theorem memHeads_pure (a b c h : Int) (hh : 0 ≤ h ∧ h < 18446744073709551616) : kindlinglaw02_MemHeads.f 2 a b c h = some true := by
  unfold kindlinglaw02_MemHeads.f
  rw [header_f 0, Option.bind_some, rheader_f 0, Option.bind_some, parts_f 0 h hh.1 hh.2, Option.bind_some, rparts_f 0 h hh.1 hh.2, Option.bind_some]
  rw [if_pos rfl, if_pos rfl, if_pos rfl, if_pos rfl, if_pos rfl, if_pos (by simp)]
  rfl
theorem parts_what (h : Int) : (partsOf h = (0, 0, 0, false)) ∨ ((partsOf h).2.2.2 = true ∧ headOf (partsOf h).1 (partsOf h).2.1 (partsOf h).2.2.1 = (h, 0)) := by
  unfold partsOf
  split
  · rename_i e; exact .inr ⟨rfl, e⟩
  · exact .inl rfl
theorem back_j0 (h : Int) (hh : 0 ≤ h ∧ h < 18446744073709551616) : kindlinglaw02_MemHeadBack.j0 3 h false = some true := by
  simp only [kindlinglaw02_MemHeadBack.j0]
  rw [if_neg (by decide), parts_f 0 h hh.1 hh.2, Option.bind_some, header_f 0, Option.bind_some]
  rcases parts_what h with e | ⟨e1, e2⟩
  · rw [e]
    rfl
  · rw [if_pos e1, e2, if_pos rfl, if_pos rfl]
    rfl
theorem hdr_odd (k s t : Int) : hdr k s t % 2 = 1 := by unfold hdr; omega
theorem memHeadBack_pure (a b c h : Int) (hh : 0 ≤ h ∧ h < 18446744073709551616) : kindlinglaw02_MemHeadBack.f 3 a b c h = some true := by
  unfold kindlinglaw02_MemHeadBack.f
  have hu := head_u64 a b c
  rw [header_f 1, Option.bind_some, parts_f 1 _ hu.1 hu.2, Option.bind_some]
  by_cases hr : rightB a b c = true
  · have e : headOf a b c = (hdr a b c, 0) := by unfold headOf; rw [if_pos hr]
    have ho := hdr_odd a b c
    have h0 := (hdr_u64 hr).1
    rw [e, parts_hdr hr]
    rw [if_pos rfl, if_pos rfl, if_pos rfl, if_pos rfl, if_pos rfl, Int.tmod_eq_emod_of_nonneg h0, if_pos ho]
    exact back_j0 h hh
  · have e : headOf a b c = (0, 22) := by unfold headOf; rw [if_neg hr]
    rw [e, if_neg (by decide)]
    exact back_j0 h hh
end Go.Proofs.Ytaliolnndbnfhaa.Pf
