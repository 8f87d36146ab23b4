/- Words of integers and addresses are the reference's, at all arguments; no conditions. -/
import Derived.Test.YtljbkonhailamaaPr4
import Derived.Test.YtljbkonhailamaaFacts
namespace Go.Proofs.Ytljbkonhailamaa.Pure
open Go.RowKit Go.Proofs.Ytljbkonhailamaa.Pr Go.Proofs.YtljbkonhailamaaW.PrintWords Go.Proofs.YtljbkonhailamaaW.PrintLast

theorem NumWords : kindlinglaw01_NumWords.Pure := by
  intro n a w hn _ hw
  exact Fa.NumWords_pure n a w (Fa.wfi hn) (Fa.wfu hw)

end Go.Proofs.Ytljbkonhailamaa.Pure
