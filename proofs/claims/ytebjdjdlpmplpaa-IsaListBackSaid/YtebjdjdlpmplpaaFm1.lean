-- PRINTED by print.py (a twelfth state) out of the translation. Not trusted: Lean checks it.
import Derived.Test.YtebjdjdlpmplpaaFm0
namespace Go.Proofs.Ytebjdjdlpmplpaa.Fm
open Go.RowKit Go.Proofs.YtebjdjdlpmplpaaW.PrintWords Go.Proofs.YtebjdjdlpmplpaaW.PrintLast
set_option linter.unusedVariables false
set_option linter.unusedSimpArgs false

/-! ### isa_Name: function 15 -/
def isa_Name.f (a0 : Int) : Option (ByteArray) := some (Isa.nameOf a0)
theorem isa_Name.calls (a0 : Int) (r : ByteArray) (w : World) (h : isa_Name.f a0 = some r) :
    Calls Try.prog 15 #[.int .i64 a0] w fun e w' => e = .returned (.string r) ∧ Below w.heap.size w w' := by
  obtain rfl := Option.some.inj h
  exact Isa.name_any a0 w


end Go.Proofs.Ytebjdjdlpmplpaa.Fm
