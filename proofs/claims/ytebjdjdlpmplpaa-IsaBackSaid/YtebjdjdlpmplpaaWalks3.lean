/- The laws of instructions as walks: whatever the instruction, the law answers true, and of what was there nothing has turned. -/
import Derived.Test.YtebjdjdlpmplpaaPr6
import Derived.Test.YtebjdjdlpmplpaaPureIsaEncodes
import Derived.Test.YtebjdjdlpmplpaaPureIsaBack
namespace Go.Proofs.Ytebjdjdlpmplpaa.Walks3
open Go.RowKit
theorem isaEncodes (a b c d e : Int) (w : World) (_ : (Lit.int .i64 a).wf = true) (_ : (Lit.int .i64 b).wf = true) (_ : (Lit.int .i64 c).wf = true) (_ : (Lit.int .i64 d).wf = true) (_ : (Lit.int .i64 e).wf = true) :
    Calls Try.prog 4 #[.agg #[.int .i64 a, .int .i64 b, .int .i64 c, .int .i64 d, .int .i64 e]] w fun e w' => e = .returned (.bool true) ∧ Below w.heap.size w w' := by
  obtain ⟨k, hk⟩ := Pure.IsaEncodes a b c d e
  exact Pr.kindlinglaw03_IsaEncodes.calls k a b c d e true w hk
theorem isaBack (a b c d e a' b' c' d' e' x : Int) (w : World) (_ : (Lit.int .i64 a).wf = true) (_ : (Lit.int .i64 b).wf = true) (_ : (Lit.int .i64 c).wf = true) (_ : (Lit.int .i64 d).wf = true) (_ : (Lit.int .i64 e).wf = true)
    (_ : (Lit.int .i64 a').wf = true) (_ : (Lit.int .i64 b').wf = true) (_ : (Lit.int .i64 c').wf = true) (_ : (Lit.int .i64 d').wf = true) (_ : (Lit.int .i64 e').wf = true) (hx : (Lit.int .u64 x).wf = true) :
    Calls Try.prog 6 #[.agg #[.int .i64 a, .int .i64 b, .int .i64 c, .int .i64 d, .int .i64 e], .agg #[.int .i64 a', .int .i64 b', .int .i64 c', .int .i64 d', .int .i64 e'], .int .u64 x] w fun e w' => e = .returned (.bool true) ∧ Below w.heap.size w w' := by
  obtain ⟨k, hk⟩ := Pure.IsaBack a b c d e a' b' c' d' e' x hx
  exact Pr.kindlinglaw03_IsaBack.calls k a b c d e a' b' c' d' e' x true w hk
end Go.Proofs.Ytebjdjdlpmplpaa.Walks3
