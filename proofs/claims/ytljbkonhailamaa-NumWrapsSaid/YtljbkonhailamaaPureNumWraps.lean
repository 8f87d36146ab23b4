/- A wrapped number is as good as the number, at all 64-bit integers; no conditions. -/
import Derived.Test.YtljbkonhailamaaPr1
import Derived.Test.YtljbkonhailamaaFacts
namespace Go.Proofs.Ytljbkonhailamaa.Pure
open Go.RowKit Go.Proofs.Ytljbkonhailamaa.Pr Go.Proofs.YtljbkonhailamaaW.PrintWords Go.Proofs.YtljbkonhailamaaW.PrintLast

theorem NumWraps : kindlinglaw01_NumWraps.Pure := by
  intro a b _ _
  exact Fa.NumWraps_pure a b

end Go.Proofs.Ytljbkonhailamaa.Pure
