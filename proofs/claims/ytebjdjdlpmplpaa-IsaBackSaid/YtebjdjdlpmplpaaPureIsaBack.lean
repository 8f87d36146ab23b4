/- IsaBack at every two instructions and every word. -/
import Derived.Test.YtebjdjdlpmplpaaFacts
namespace Go.Proofs.Ytebjdjdlpmplpaa.Pure
open Go.RowKit Go.Proofs.Ytebjdjdlpmplpaa.Pr Go.Proofs.Ytebjdjdlpmplpaa.Fa Go.Proofs.Ytebjdjdlpmplpaa.Isa Go.Proofs.YtebjdjdlpmplpaaW.PrintWords Go.Proofs.YtebjdjdlpmplpaaW.PrintLast
theorem dec_enc {op a b c n : Int} (h : checkOf op a b c n = 0) : decI (encW op a b c n) = (op, a, b, c, n, 0) := by
  obtain ⟨⟨h1, h2⟩, ha, hb, hc, hn, _, _, _, _⟩ := check_right h
  have e1 : encW op a b c n % 256 = op := by unfold encW; omega
  have e2 : encW op a b c n / 256 % 256 = a := by unfold encW; omega
  have e3 : encW op a b c n / 65536 % 256 = b := by unfold encW; omega
  have e4 : encW op a b c n / 16777216 % 256 = c := by unfold encW; omega
  have e5 : decN (encW op a b c n) = n := by
    have : encW op a b c n / 4294967296 = n % 4294967296 := by unfold encW; omega
    unfold decN
    rw [this]
    split <;> omega
  unfold decI
  rw [e1, e2, e3, e4, e5, if_pos h]
theorem enc_range {op a b c n : Int} (h : checkOf op a b c n = 0) : 0 ≤ encW op a b c n ∧ encW op a b c n < 18446744073709551616 := by
  obtain ⟨⟨h1, h2⟩, ha, hb, hc, hn, _, _, _, _⟩ := check_right h
  unfold encW
  omega
theorem back_j1 (k : Nat) (w : Int) (h0 : 0 ≤ w) (h : w < 18446744073709551616) : kindlinglaw03_IsaBack.j1 (k + 1) w false = some true := by
  rw [kindlinglaw03_IsaBack.j1, if_neg (by decide), idecode_f w h0 h, Option.bind_some, known_f]
  unfold decI
  by_cases hc : checkOf (w % 256) (w / 256 % 256) (w / 65536 % 256) (w / 16777216 % 256) (decN w) = 0
  · rw [if_pos hc]
    dsimp only
    rw [iencode_f, if_pos hc, Option.bind_some, if_pos rfl, if_pos rfl]
    have he : encW (w % 256) (w / 256 % 256) (w / 65536 % 256) (w / 16777216 % 256) (decN w) = w := by
      unfold encW decN
      split <;> omega
    rw [he, if_pos rfl]
    rfl
  · rw [if_neg hc]
    dsimp only
    rw [iencode_f, Option.bind_some, if_neg hc, if_pos (by decide)]
    rfl
theorem back_j0 (k : Nat) (w : Int) (h0 : 0 ≤ w) (h : w < 18446744073709551616) (op a b c n op' a' b' c' n' : Int) :
    kindlinglaw03_IsaBack.j0 (k + 2) w (if checkOf op a b c n = 0 then (encW op a b c n, (0 : Int)) else (0, checkOf op a b c n)).1 (if checkOf op a b c n = 0 then (encW op a b c n, (0 : Int)) else (0, checkOf op a b c n)).2
      (if checkOf op' a' b' c' n' = 0 then (encW op' a' b' c' n', (0 : Int)) else (0, checkOf op' a' b' c' n')).1 (if checkOf op' a' b' c' n' = 0 then (encW op' a' b' c' n', (0 : Int)) else (0, checkOf op' a' b' c' n')).2 op a b c n op' a' b' c' n' = some true := by
  rw [kindlinglaw03_IsaBack.j0]
  by_cases h1 : checkOf op a b c n = 0
  · rw [if_pos h1]
    by_cases h2 : checkOf op' a' b' c' n' = 0
    · rw [if_pos h2]
      dsimp only
      rw [if_pos rfl, if_pos rfl]
      have : ((encW op a b c n == encW op' a' b' c' n') != (op == op' && (a == a' && (b == b' && (c == c' && (n == n')))))) = false := by
        by_cases he : encW op a b c n = encW op' a' b' c' n'
        · have d := dec_enc h1
          rw [he, dec_enc h2] at d
          simp only [Prod.mk.injEq] at d
          obtain ⟨rfl, rfl, rfl, rfl, rfl, _⟩ := d
          simp
        · have : ¬ (op = op' ∧ a = a' ∧ b = b' ∧ c = c' ∧ n = n') := by rintro ⟨rfl, rfl, rfl, rfl, rfl⟩; exact he rfl
          rw [beq_eq_false_iff_ne.2 he]
          simp only [bne_eq_false_iff_eq]
          rw [eq_comm]
          apply Bool.eq_false_iff.2
          intro hh
          simp only [Bool.and_eq_true, beq_iff_eq] at hh
          exact this hh
      rw [this]
      exact back_j1 k w h0 h
    · rw [if_neg h2]
      dsimp only
      rw [if_pos rfl, if_neg h2]
      exact back_j1 k w h0 h
  · rw [if_neg h1]
    dsimp only
    rw [if_neg h1]
    exact back_j1 k w h0 h
theorem IsaBack (a0_0 a0_1 a0_2 a0_3 a0_4 a1_0 a1_1 a1_2 a1_3 a1_4 a2 : Int) (h2 : (Lit.int .u64 a2).wf = true) : ∃ k, kindlinglaw03_IsaBack.f k a0_0 a0_1 a0_2 a0_3 a0_4 a1_0 a1_1 a1_2 a1_3 a1_4 a2 = some true := by
  obtain ⟨hw1, hw2⟩ := u64_of h2
  refine ⟨0 + 2, ?_⟩
  have hj := back_j0 0 a2 hw1 hw2 a0_0 a0_1 a0_2 a0_3 a0_4 a1_0 a1_1 a1_2 a1_3 a1_4
  unfold kindlinglaw03_IsaBack.f
  rw [iencode_f, iencode_f, Option.bind_some, Option.bind_some, hj]
  by_cases h1 : checkOf a0_0 a0_1 a0_2 a0_3 a0_4 = 0
  · rw [if_pos h1]
    dsimp only
    rw [if_pos rfl, idecode_f _ (enc_range h1).1 (enc_range h1).2, Option.bind_some, dec_enc h1]
    dsimp only
    rw [if_pos rfl]
    simp
  · rw [if_neg h1]
    dsimp only
    rw [if_neg h1]
end Go.Proofs.Ytebjdjdlpmplpaa.Pure
