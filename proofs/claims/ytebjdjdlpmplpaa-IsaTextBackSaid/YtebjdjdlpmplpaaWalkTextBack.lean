/- IsaTextBack as a walk: whatever the instructions and the text, the law answers true, and of what was there nothing has turned. -/
import Derived.Test.YtebjdjdlpmplpaaPureIsaTextBack
namespace Go.Proofs.Ytebjdjdlpmplpaa.WalkTextBack
open Go.RowKit
theorem isaTextBack (a b c d e a' b' c' d' e' : Int) (s : ByteArray) (w : World) (_ : (Lit.int .i64 a).wf = true) (h1 : (Lit.int .i64 b).wf = true) (h2 : (Lit.int .i64 c).wf = true) (h3 : (Lit.int .i64 d).wf = true) (h4 : (Lit.int .i64 e).wf = true)
    (_ : (Lit.int .i64 a').wf = true) (g1 : (Lit.int .i64 b').wf = true) (g2 : (Lit.int .i64 c').wf = true) (g3 : (Lit.int .i64 d').wf = true) (g4 : (Lit.int .i64 e').wf = true) (_ : s.size ≤ 140737488351232) :
    Calls Try.prog 11 #[.agg #[.int .i64 a, .int .i64 b, .int .i64 c, .int .i64 d, .int .i64 e], .agg #[.int .i64 a', .int .i64 b', .int .i64 c', .int .i64 d', .int .i64 e'], .string s] w fun e w' => e = .returned (.bool true) ∧ Below w.heap.size w w' := by
  obtain ⟨k, hk⟩ := Pure.IsaTextBack a b c d e a' b' c' d' e' s (FaT.i64_of h1) (FaT.i64_of h2) (FaT.i64_of h3) (FaT.i64_of h4) (FaT.i64_of g1) (FaT.i64_of g2) (FaT.i64_of g3) (FaT.i64_of g4)
  exact Tx.kindlinglaw03_IsaTextBack.calls k a b c d e a' b' c' d' e' s true w hk
end Go.Proofs.Ytebjdjdlpmplpaa.WalkTextBack
