/- Quotients and rests are the reference's, at all 64-bit integers; no conditions. -/
import Derived.Test.YtljbkonhailamaaPr3
import Derived.Test.YtljbkonhailamaaFacts
namespace Go.Proofs.Ytljbkonhailamaa.Pure
open Go.RowKit Go.Proofs.Ytljbkonhailamaa.Pr Go.Proofs.YtljbkonhailamaaW.PrintWords Go.Proofs.YtljbkonhailamaaW.PrintLast

theorem NumDivides : kindlinglaw01_NumDivides.Pure := by
  intro a b ha hb
  exact Fa.NumDivides_pure a b (Fa.wfi ha) (Fa.wfi hb)

end Go.Proofs.Ytljbkonhailamaa.Pure
