/- IsaTexts at every instruction and every text. -/
import Derived.Test.YtebjdjdlpmplpaaTxRefP
import Derived.Test.YtebjdjdlpmplpaaTx9
namespace Go.Proofs.Ytebjdjdlpmplpaa.Pure
open Go.RowKit Go.Proofs.Ytebjdjdlpmplpaa.Tx Go.Proofs.Ytebjdjdlpmplpaa.FaT Go.Proofs.Ytebjdjdlpmplpaa.Isa Go.Proofs.YtebjdjdlpmplpaaW.PrintWords Go.Proofs.YtebjdjdlpmplpaaW.PrintLast
open Num (textOf bts parseOf fitZ)
theorem both (s : ByteArray) (hs : s.size ≤ 4096) (K : Nat) (hK : s.size + 700 ≤ K) : ∃ p, isa_Parse.f K s = some p ∧ kindlingref03_Parse.f K s = some p := by
  have hK2 : K = (K - s.size - 60) + s.size + 60 := by omega
  by_cases h : ∃ op a b c n, Right op a b c n ∧ bts s = joinW (textW op a b c n)
  · obtain ⟨op, a, b, c, n, hr, ht⟩ := h
    refine ⟨_, ?_, rparse_yes s hs K hK hr ht⟩
    rw [hK2]
    exact parse_yes s hs _ hr ht
  · have hno : ∀ op a b c n, Right op a b c n → bts s ≠ joinW (textW op a b c n) := fun op a b c n hr ht => h ⟨op, a, b, c, n, hr, ht⟩
    refine ⟨err, ?_, rparse_no s hs K hK hno⟩
    rw [hK2]
    exact parse_no s hs _ hno
theorem IsaTexts (op a b c n : Int) (s : ByteArray) (ha : i64in a) (hb : i64in b) (hc : i64in c) (hn : i64in n) : ∃ k, kindlinglaw03_IsaTexts.f k op a b c n s = some true := by
  refine ⟨s.size + 740 + 60, ?_⟩
  unfold kindlinglaw03_IsaTexts.f
  rw [known_f]
  by_cases hs : (s.size : Int) > 4096
  · rw [if_pos hs]; rfl
  · obtain ⟨p, h1, h2⟩ := both s (by omega) (s.size + 740 + 60) (by omega)
    rw [if_neg hs, h1, h2, show isa_Text.f op a b c n = some (isaText op a b c n) from if_pos ⟨ha, hb, hc, hn⟩, rtext3_f _ _ _ _ _ _ ha hb hc hn]
    simp only [Option.bind_some, beq_self_eq_true, Bool.and_self, if_true]
end Go.Proofs.Ytebjdjdlpmplpaa.Pure
