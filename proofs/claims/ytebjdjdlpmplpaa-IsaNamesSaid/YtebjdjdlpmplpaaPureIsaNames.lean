/- IsaNames at every number. -/
import Derived.Test.YtebjdjdlpmplpaaFacts
namespace Go.Proofs.Ytebjdjdlpmplpaa.Pure
open Go.RowKit Go.Proofs.Ytebjdjdlpmplpaa.Pr Go.Proofs.Ytebjdjdlpmplpaa.Fa Go.Proofs.Ytebjdjdlpmplpaa.Isa Go.Proofs.YtebjdjdlpmplpaaW.PrintWords Go.Proofs.YtebjdjdlpmplpaaW.PrintLast
theorem IsaNames : kindlinglaw03_IsaNames.Pure := by
  intro a0 _
  unfold kindlinglaw03_IsaNames.f
  rw [show isa_Name.f a0 = some (nameOf a0) from rfl, show isa_Form.f a0 = some (formOf a0) from rfl, known_f]
  by_cases h : opIn a0
  · rw [find_in h]
    simp only [Option.bind_some, if_true]
  · rw [find_out h, name_out h, form_out h]
    simp only [Option.bind_some, if_true]
end Go.Proofs.Ytebjdjdlpmplpaa.Pure
