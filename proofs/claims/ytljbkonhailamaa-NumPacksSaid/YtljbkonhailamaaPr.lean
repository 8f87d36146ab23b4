-- PRINTED by print.py (a twelfth state) out of the translation. Not trusted: Lean checks it.
import Derived.Test.YtljbkonhailamaaPr0
import Derived.Test.YtljbkonhailamaaPr1
import Derived.Test.YtljbkonhailamaaPr2
import Derived.Test.YtljbkonhailamaaPr3
import Derived.Test.YtljbkonhailamaaPr4
import Derived.Test.YtljbkonhailamaaPr5
import Derived.Test.YtljbkonhailamaaPr6
namespace Go.Proofs.Ytljbkonhailamaa.Pr
open Go.RowKit Go.Proofs.YtljbkonhailamaaW.PrintWords Go.Proofs.YtljbkonhailamaaW.PrintLast Go.Proofs.YtljbkonhailamaaW.PrintMore
attribute [local go_sem] max2_int min2_int max_two min_two max_three min_three max_four min_four   -- for this text's walks alone
set_option linter.unusedVariables false
set_option linter.unusedSimpArgs false

end Go.Proofs.Ytljbkonhailamaa.Pr
