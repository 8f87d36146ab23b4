/- The divisor times the quotient and the rest are the number, at all 64-bit integers; no conditions. -/
import Derived.Test.YtljbkonhailamaaPr3
import Derived.Test.YtljbkonhailamaaFacts
namespace Go.Proofs.Ytljbkonhailamaa.Pure
open Go.RowKit Go.Proofs.Ytljbkonhailamaa.Pr Go.Proofs.YtljbkonhailamaaW.PrintWords Go.Proofs.YtljbkonhailamaaW.PrintLast

theorem NumMeets : kindlinglaw01_NumMeets.Pure := by
  intro a b _ _
  exact Fa.NumMeets_pure a b

end Go.Proofs.Ytljbkonhailamaa.Pure
