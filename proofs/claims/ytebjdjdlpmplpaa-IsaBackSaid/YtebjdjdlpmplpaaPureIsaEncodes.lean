/- IsaEncodes at every instruction. -/
import Derived.Test.YtebjdjdlpmplpaaFacts
namespace Go.Proofs.Ytebjdjdlpmplpaa.Pure
open Go.RowKit Go.Proofs.Ytebjdjdlpmplpaa.Pr Go.Proofs.Ytebjdjdlpmplpaa.Fa Go.Proofs.Ytebjdjdlpmplpaa.Isa Go.Proofs.YtebjdjdlpmplpaaW.PrintWords Go.Proofs.YtebjdjdlpmplpaaW.PrintLast
theorem IsaEncodes (a0_0 a0_1 a0_2 a0_3 a0_4 : Int) : ∃ k, kindlinglaw03_IsaEncodes.f k a0_0 a0_1 a0_2 a0_3 a0_4 = some true := by
  refine ⟨0 + 12, ?_⟩
  unfold kindlinglaw03_IsaEncodes.f
  rw [iencode_f, rencode_f, icheck_f, rcheck_f, known_f]
  simp only [Option.bind_some, if_true]
end Go.Proofs.Ytebjdjdlpmplpaa.Pure
