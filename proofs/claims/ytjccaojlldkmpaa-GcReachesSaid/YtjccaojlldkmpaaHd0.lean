-- PRINTED by print.py (a twelfth state) out of the translation. Not trusted: Lean checks it.
import Derived.Test.YtjccaojlldkmpaaProg
import Derived.Below
import Derived.Deep.Draws
import Derived.Deep.AppendLies
import Derived.Maps.AppendAt
import Derived.OwnWalk
import Derived.Laws.BytesArg
import Derived.Laws.MakeOwn
import Derived.Laws.OwnMore
import Derived.Deep.OwnRows
import Derived.Tactics
import Derived.Lib.ConvBytes
import Derived.Laws.Slices
import Derived.WalkKit
import Derived.KernelRfl
import Derived.RowKit3
import Derived.Deep.LoopGhost
import Derived.Deep.QuietTactic
import Derived.BigQuiet
import Derived.WideLaws
import Derived.Deep.DeepCutAuto
import Derived.Deep.CutBlock
import Derived.Deep.RegionHeld3
import Derived.Laws.Rows
import Derived.Lib.AppendStr
import Derived.ArgAppend
import Derived.Laws.IdiomCopy
import Derived.OrdersHeld
import Derived.Laws.BitsLemmas
import Derived.RowKit
import Derived.Test.YtjccaojlldkmpaaWWords
import Derived.Test.YtjccaojlldkmpaaWLast
import Derived.Test.YtjccaojlldkmpaaWTab
import Derived.Test.YtjccaojlldkmpaaWFour
import Derived.Test.YtjccaojlldkmpaaWQPut
import Derived.Test.YtjccaojlldkmpaaWApart
import Derived.Test.YtjccaojlldkmpaaWArr
import Derived.Test.YtjccaojlldkmpaaWZeros
import Derived.Test.YtjccaojlldkmpaaWFoot
import Derived.Test.YtjccaojlldkmpaaWKept
import Derived.Test.YtjccaojlldkmpaaWShare
import Derived.Test.YtjccaojlldkmpaaWN
import Derived.Test.YtjccaojlldkmpaaWFootNe
import Derived.Test.YtjccaojlldkmpaaWAt
import Derived.Test.YtjccaojlldkmpaaWEqStruct
import Derived.Test.YtjccaojlldkmpaaWRepsOne
import Derived.Test.YtjccaojlldkmpaaWInv
import Derived.Test.YtjccaojlldkmpaaWInvWords
import Derived.Test.YtjccaojlldkmpaaWGuard
import Derived.Test.YtjccaojlldkmpaaWNEv
import Derived.Test.YtjccaojlldkmpaaWMore
namespace Go.Proofs.Ytjccaojlldkmpaa.Hd
open Go.RowKit Go.Proofs.YtjccaojlldkmpaaW.PrintWords Go.Proofs.YtjccaojlldkmpaaW.PrintLast Go.Proofs.YtjccaojlldkmpaaW.PrintMore
attribute [local go_sem] max2_int min2_int max_two min_two max_three min_three max_four min_four   -- for this text's walks alone
set_option linter.unusedVariables false
set_option linter.unusedSimpArgs false



def errW : Option Int → Value
  | none => .nilIface
  | some c => .iface 0 (.int .i64 c)
theorem errW_none : errW none = .nilIface := rfl
theorem errW_some (c : Int) : errW (some c) = .iface 0 (.int .i64 c) := rfl

-- the values' own types

end Go.Proofs.Ytjccaojlldkmpaa.Hd
