/- A text comes back from its words; like words only of like texts; a changed word is of another text or of none; at all arguments; no conditions. -/
import Derived.Test.YtljbkonhailamaaPr6
import Derived.Test.YtljbkonhailamaaTexts
namespace Go.Proofs.Ytljbkonhailamaa.Pure
open Go.RowKit Go.Proofs.Ytljbkonhailamaa.Pr Go.Proofs.YtljbkonhailamaaW.PrintWords Go.Proofs.YtljbkonhailamaaW.PrintLast

theorem NumPackBack : kindlinglaw01_NumPackBack.Pure := by
  intro s t a b _ _ _ hb
  exact Fa.NumPackBack_pure s t a b (Fa.wfu hb)

end Go.Proofs.Ytljbkonhailamaa.Pure
