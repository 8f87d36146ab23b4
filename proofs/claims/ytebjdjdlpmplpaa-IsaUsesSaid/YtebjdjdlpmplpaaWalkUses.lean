/- IsaUses as a walk: whatever the instruction, the law answers true, and of what was there nothing has turned. -/
import Derived.Test.YtebjdjdlpmplpaaPr10
import Derived.Test.YtebjdjdlpmplpaaPureIsaUses
namespace Go.Proofs.Ytebjdjdlpmplpaa.WalkUses
open Go.RowKit
theorem isaUses (a b c d e : Int) (w : World) (_ : (Lit.int .i64 a).wf = true) (_ : (Lit.int .i64 b).wf = true) (_ : (Lit.int .i64 c).wf = true) (_ : (Lit.int .i64 d).wf = true) (_ : (Lit.int .i64 e).wf = true) :
    Calls Try.prog 9 #[.agg #[.int .i64 a, .int .i64 b, .int .i64 c, .int .i64 d, .int .i64 e]] w fun e w' => e = .returned (.bool true) ∧ Below w.heap.size w w' := by
  obtain ⟨k, hk⟩ := Pure.IsaUses a b c d e
  exact Pr.kindlinglaw03_IsaUses.calls k a b c d e true w hk
end Go.Proofs.Ytebjdjdlpmplpaa.WalkUses
