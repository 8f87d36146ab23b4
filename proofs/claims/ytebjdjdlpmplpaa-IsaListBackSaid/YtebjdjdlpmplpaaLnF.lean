/- ref.Lines answers the lines that isa.Lines tells: a string of at most 60000 bytes. -/
import Derived.Test.YtebjdjdlpmplpaaLines
import Derived.Test.YtebjdjdlpmplpaaLn0
namespace Go.Proofs.Ytebjdjdlpmplpaa.Ln
open Go.RowKit Go.Proofs.Ytebjdjdlpmplpaa.Tx Go.Proofs.YtebjdjdlpmplpaaW.PrintWords Go.Proofs.YtebjdjdlpmplpaaW.PrintLast
theorem lines_from (s : ByteArray) (hs : s.size ≤ 60000) : ∀ d i, i + d = s.size → kindlingref03_Lines.l0 (d + 1) s (scan s i).2 ((scan s i).1 : Int) (i : Int) = some (linesOf s) := by
  intro d
  induction d with
  | zero =>
    intro i hi
    obtain rfl : i = s.size := by omega
    have hle := scan_le s s.size
    have hl : linesOf s = (step s s.size (scan s s.size)).2 := rfl
    unfold kindlingref03_Lines.l0
    rw [if_neg (by omega)]
    by_cases h : (scan s s.size).1 = s.size
    · rw [if_neg (by omega), hl, step_in (.inr ⟨rfl, h⟩)]
    · rw [if_pos (by omega), if_pos (by omega), if_pos (by omega), if_pos (by omega), hl, step_out (by rintro (⟨h1, -⟩ | ⟨-, h1⟩) <;> first | omega | exact h h1)]
      simp
  | succ d ih =>
    intro i hi
    have hle := scan_le s i
    have hw : wrap64 ((i : Int) + 1) = ((i + 1 : Nat) : Int) := by unfold wrap64; omega
    have hlt : i < s.size := by omega
    have hb : bt s (i : Int) = ((s[i]'hlt).toNat : Int) := by
      have h := bt_at s (i : Int) (by simpa using hlt)
      rw [← h]; rfl
    have hih := ih (i + 1) (by omega)
    rw [scan_succ] at hih
    unfold kindlingref03_Lines.l0
    rw [if_pos (by omega), if_pos (by omega), hb, hw]
    by_cases h : ((s[i]'hlt).toNat : Int) = 10
    · rw [if_pos h, if_pos (by omega), if_pos (by omega), if_pos (by omega), if_pos (by omega)]
      rw [step_out (by rintro (⟨h1, h2⟩ | ⟨h1, -⟩) <;> first | exact h2 h | omega)] at hih
      simpa using hih
    · rw [if_neg h]
      rw [step_in (.inl ⟨hlt, h⟩)] at hih
      exact hih
theorem lines_f (s : ByteArray) (hs : s.size ≤ 60000) : kindlingref03_Lines.f (s.size + 1) s = some (linesOf s) := by
  have h := lines_from s hs s.size 0 (by omega)
  exact h
end Go.Proofs.Ytebjdjdlpmplpaa.Ln
