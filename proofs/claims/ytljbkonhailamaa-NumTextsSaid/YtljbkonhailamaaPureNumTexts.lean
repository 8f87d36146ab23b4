/- Any number is written in digits and any text is read as the reference does, at all arguments; no conditions. -/
import Derived.Test.YtljbkonhailamaaPt2
import Derived.Test.YtljbkonhailamaaTextFacts
namespace Go.Proofs.Ytljbkonhailamaa.Pure
open Go.RowKit Go.Proofs.Ytljbkonhailamaa.Pt Go.Proofs.YtljbkonhailamaaW.PrintWords Go.Proofs.YtljbkonhailamaaW.PrintLast

theorem NumTexts : kindlinglaw01_NumTexts.Pure := by
  intro n s hn hs
  exact Fb.NumTexts_pure n s (Fa.wfi hn) hs

end Go.Proofs.Ytljbkonhailamaa.Pure
