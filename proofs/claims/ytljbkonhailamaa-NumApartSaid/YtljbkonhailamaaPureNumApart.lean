/- A word tells what it is of, at all arguments; no conditions. -/
import Derived.Test.YtljbkonhailamaaPr4
import Derived.Test.YtljbkonhailamaaFacts
namespace Go.Proofs.Ytljbkonhailamaa.Pure
open Go.RowKit Go.Proofs.Ytljbkonhailamaa.Pr Go.Proofs.YtljbkonhailamaaW.PrintWords Go.Proofs.YtljbkonhailamaaW.PrintLast

theorem NumApart : kindlinglaw01_NumApart.Pure := by
  intro n m a w _ _ _ hw
  exact Fa.NumApart_pure n m a w (Fa.wfu hw)

end Go.Proofs.Ytljbkonhailamaa.Pure
