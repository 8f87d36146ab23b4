/- The wrapped sums and products are a ring, at all 64-bit integers; no conditions. -/
import Derived.Test.YtljbkonhailamaaPr2
import Derived.Test.YtljbkonhailamaaFacts
namespace Go.Proofs.Ytljbkonhailamaa.Pure
open Go.RowKit Go.Proofs.Ytljbkonhailamaa.Pr Go.Proofs.YtljbkonhailamaaW.PrintWords Go.Proofs.YtljbkonhailamaaW.PrintLast

theorem NumRing : kindlinglaw01_NumRing.Pure := by
  intro a b c _ _ _
  exact Fa.NumRing_pure a b c

end Go.Proofs.Ytljbkonhailamaa.Pure
