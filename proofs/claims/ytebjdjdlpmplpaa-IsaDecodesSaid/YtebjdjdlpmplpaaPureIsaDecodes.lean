/- IsaDecodes at every word. -/
import Derived.Test.YtebjdjdlpmplpaaFacts
namespace Go.Proofs.Ytebjdjdlpmplpaa.Pure
open Go.RowKit Go.Proofs.Ytebjdjdlpmplpaa.Pr Go.Proofs.Ytebjdjdlpmplpaa.Fa Go.Proofs.Ytebjdjdlpmplpaa.Isa Go.Proofs.YtebjdjdlpmplpaaW.PrintWords Go.Proofs.YtebjdjdlpmplpaaW.PrintLast
theorem IsaDecodes : kindlinglaw03_IsaDecodes.Pure := by
  intro a0 h0
  obtain ⟨h1, h2⟩ := u64_of h0
  refine ⟨0 + 12, ?_⟩
  unfold kindlinglaw03_IsaDecodes.f
  rw [idecode_f a0 h1 h2, rdecode_f 0 a0 h1 h2, known_f]
  simp only [Option.bind_some, beq_self_eq_true, Bool.and_self, if_true]
end Go.Proofs.Ytebjdjdlpmplpaa.Pure
