/- IsaTexts as a walk: whatever the instruction and the text, the law answers true, and of what was there nothing has turned. -/
import Derived.Test.YtebjdjdlpmplpaaPureIsaTexts
namespace Go.Proofs.Ytebjdjdlpmplpaa.WalkTexts
open Go.RowKit
theorem isaTexts (a b c d e : Int) (s : ByteArray) (w : World) (_ : (Lit.int .i64 a).wf = true) (h1 : (Lit.int .i64 b).wf = true) (h2 : (Lit.int .i64 c).wf = true) (h3 : (Lit.int .i64 d).wf = true) (h4 : (Lit.int .i64 e).wf = true) (_ : s.size ≤ 140737488351232) :
    Calls Try.prog 10 #[.agg #[.int .i64 a, .int .i64 b, .int .i64 c, .int .i64 d, .int .i64 e], .string s] w fun e w' => e = .returned (.bool true) ∧ Below w.heap.size w w' := by
  obtain ⟨k, hk⟩ := Pure.IsaTexts a b c d e s (FaT.i64_of h1) (FaT.i64_of h2) (FaT.i64_of h3) (FaT.i64_of h4)
  exact Tx.kindlinglaw03_IsaTexts.calls k a b c d e s true w hk
end Go.Proofs.Ytebjdjdlpmplpaa.WalkTexts
