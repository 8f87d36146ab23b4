/-
  No cell of these rows narrows 'for every input' (looked for: loops, veiled, ifaces, maps, wideKeys, modest, calm, conditions, laid).
  DERIVED. THE GIVEN ROWS OF THIS SEAT. 11 by the template 'for every input the law returns true; each argument reads behind the call as it read before'; 0 by the template 'total and deterministic' (their statements: YtebjdjdlpmplpaaTotals.lean).
  GIVEN WITH THE SEED: the statements are not yours to turn. If you find one false, say at which input.
  Laid BY PROGRAM, IN A SANDBOX (cutbox-rows.mjs): the forced cells as the released guide's own fill.sh prints them over the translation 895bc39e598eb36e… (all of the seat's roots in one cut). By AI agents, Wed Nov 11 2026. No macro, syntax, notation, axiom, sorry.
-/
import Derived.Test.YtebjdjdlpmplpaaChecked
import GoSem.Claim
import GoSem.ClaimJoined
import GoSem.ClaimMapViews
import Derived.JoinedTies
import Derived.KernelRfl
namespace Go.Proofs.Ytebjdjdlpmplpaa
/- THE CELL 'sum', in the pinned program and in every row, IS THE sha256 OF THE DUMP (.gsa) THAT YtebjdjdlpmplpaaProg.lean LOADS. Nothing in Lean hashes anything: it is a label: what it is worth is what the hold of that sum in a sandbox is worth. -/
noncomputable def Try.pinned : Pinned := { name := "ytebjdjdlpmplpaa", sum := "895bc39e598eb36ef434fb51be4cca7f9293a8fd4b83185796e5c10a97fa30b5", checked := Try.checked }
namespace Rows
def none {H : Type} : Left H := { results := [], args := [] }

/-- 'kindlinglaw03.IsaNames': WHATEVER THE INPUT: true; the input reads as it did. -/
def isaNamesSpec : ChangeSpec := { name := "isaNames", fn := fun _ => fun
  | [d] => { results := [.lit (.bool true)], args := [d] }
  | _ => none }
def isaNamesRow : OpenClaim := { program := "ytebjdjdlpmplpaa", sum := "895bc39e598eb36ef434fb51be4cca7f9293a8fd4b83185796e5c10a97fa30b5", func := "kindling/kindlinglaw03.IsaNames", spec := "isaNames", apart := false }
def IsaNamesSaid : Prop := isaNamesRow.holds Try.pinned (OpenSpec.ofChange isaNamesSpec)

/-- ITS FALSE NEIGHBOUR: 'it returns false'. Refute it at one input. -/
def isaNamesWrong : ChangeSpec := { name := "isaNames", fn := fun _ => fun
  | [d] => { results := [.lit (.bool false)], args := [d] }
  | _ => none }
def IsaNamesWrongFalsely : Prop := isaNamesRow.holds Try.pinned (OpenSpec.ofChange isaNamesWrong)

/-- 'kindlinglaw03.IsaEncodes': WHATEVER THE INPUT: true; the input reads as it did. -/
def isaEncodesSpec : ChangeSpec := { name := "isaEncodes", fn := fun _ => fun
  | [d] => { results := [.lit (.bool true)], args := [d] }
  | _ => none }
def isaEncodesRow : OpenClaim := { program := "ytebjdjdlpmplpaa", sum := "895bc39e598eb36ef434fb51be4cca7f9293a8fd4b83185796e5c10a97fa30b5", func := "kindling/kindlinglaw03.IsaEncodes", spec := "isaEncodes", apart := false }
def IsaEncodesSaid : Prop := isaEncodesRow.holds Try.pinned (OpenSpec.ofChange isaEncodesSpec)

/-- ITS FALSE NEIGHBOUR: 'it returns false'. Refute it at one input. -/
def isaEncodesWrong : ChangeSpec := { name := "isaEncodes", fn := fun _ => fun
  | [d] => { results := [.lit (.bool false)], args := [d] }
  | _ => none }
def IsaEncodesWrongFalsely : Prop := isaEncodesRow.holds Try.pinned (OpenSpec.ofChange isaEncodesWrong)

/-- 'kindlinglaw03.IsaDecodes': WHATEVER THE INPUT: true; the input reads as it did. -/
def isaDecodesSpec : ChangeSpec := { name := "isaDecodes", fn := fun _ => fun
  | [d] => { results := [.lit (.bool true)], args := [d] }
  | _ => none }
def isaDecodesRow : OpenClaim := { program := "ytebjdjdlpmplpaa", sum := "895bc39e598eb36ef434fb51be4cca7f9293a8fd4b83185796e5c10a97fa30b5", func := "kindling/kindlinglaw03.IsaDecodes", spec := "isaDecodes", apart := false }
def IsaDecodesSaid : Prop := isaDecodesRow.holds Try.pinned (OpenSpec.ofChange isaDecodesSpec)

/-- ITS FALSE NEIGHBOUR: 'it returns false'. Refute it at one input. -/
def isaDecodesWrong : ChangeSpec := { name := "isaDecodes", fn := fun _ => fun
  | [d] => { results := [.lit (.bool false)], args := [d] }
  | _ => none }
def IsaDecodesWrongFalsely : Prop := isaDecodesRow.holds Try.pinned (OpenSpec.ofChange isaDecodesWrong)

/-- 'kindlinglaw03.IsaBack': WHATEVER THE INPUT: true; the input reads as it did. -/
def isaBackSpec : ChangeSpec := { name := "isaBack", fn := fun _ => fun
  | [d1, d2, d3] => { results := [.lit (.bool true)], args := [d1, d2, d3] }
  | _ => none }
def isaBackRow : OpenClaim := { program := "ytebjdjdlpmplpaa", sum := "895bc39e598eb36ef434fb51be4cca7f9293a8fd4b83185796e5c10a97fa30b5", func := "kindling/kindlinglaw03.IsaBack", spec := "isaBack", apart := false }
def IsaBackSaid : Prop := isaBackRow.holds Try.pinned (OpenSpec.ofChange isaBackSpec)

/-- ITS FALSE NEIGHBOUR: 'it returns false'. Refute it at one input. -/
def isaBackWrong : ChangeSpec := { name := "isaBack", fn := fun _ => fun
  | [d1, d2, d3] => { results := [.lit (.bool false)], args := [d1, d2, d3] }
  | _ => none }
def IsaBackWrongFalsely : Prop := isaBackRow.holds Try.pinned (OpenSpec.ofChange isaBackWrong)

/-- 'kindlinglaw03.IsaBits': WHATEVER THE INPUT: true; the input reads as it did. -/
def isaBitsSpec : ChangeSpec := { name := "isaBits", fn := fun _ => fun
  | [d1, d2] => { results := [.lit (.bool true)], args := [d1, d2] }
  | _ => none }
def isaBitsRow : OpenClaim := { program := "ytebjdjdlpmplpaa", sum := "895bc39e598eb36ef434fb51be4cca7f9293a8fd4b83185796e5c10a97fa30b5", func := "kindling/kindlinglaw03.IsaBits", spec := "isaBits", apart := false }
def IsaBitsSaid : Prop := isaBitsRow.holds Try.pinned (OpenSpec.ofChange isaBitsSpec)

/-- ITS FALSE NEIGHBOUR: 'it returns false'. Refute it at one input. -/
def isaBitsWrong : ChangeSpec := { name := "isaBits", fn := fun _ => fun
  | [d1, d2] => { results := [.lit (.bool false)], args := [d1, d2] }
  | _ => none }
def IsaBitsWrongFalsely : Prop := isaBitsRow.holds Try.pinned (OpenSpec.ofChange isaBitsWrong)

/-- 'kindlinglaw03.IsaLines': WHATEVER THE INPUT: true; the input reads as it did. -/
def isaLinesSpec : ChangeSpec := { name := "isaLines", fn := fun _ => fun
  | [d1, d2] => { results := [.lit (.bool true)], args := [d1, d2] }
  | _ => none }
def isaLinesRow : OpenClaim := { program := "ytebjdjdlpmplpaa", sum := "895bc39e598eb36ef434fb51be4cca7f9293a8fd4b83185796e5c10a97fa30b5", func := "kindling/kindlinglaw03.IsaLines", spec := "isaLines", unfollowed := true, recurses := true, apart := false }
def IsaLinesSaid : Prop := isaLinesRow.holds Try.pinned (OpenSpec.ofChange isaLinesSpec)

/-- ITS FALSE NEIGHBOUR: 'it returns false'. Refute it at one input. -/
def isaLinesWrong : ChangeSpec := { name := "isaLines", fn := fun _ => fun
  | [d1, d2] => { results := [.lit (.bool false)], args := [d1, d2] }
  | _ => none }
def IsaLinesWrongFalsely : Prop := isaLinesRow.holds Try.pinned (OpenSpec.ofChange isaLinesWrong)

/-- 'kindlinglaw03.IsaUses': WHATEVER THE INPUT: true; the input reads as it did. -/
def isaUsesSpec : ChangeSpec := { name := "isaUses", fn := fun _ => fun
  | [d] => { results := [.lit (.bool true)], args := [d] }
  | _ => none }
def isaUsesRow : OpenClaim := { program := "ytebjdjdlpmplpaa", sum := "895bc39e598eb36ef434fb51be4cca7f9293a8fd4b83185796e5c10a97fa30b5", func := "kindling/kindlinglaw03.IsaUses", spec := "isaUses", apart := false }
def IsaUsesSaid : Prop := isaUsesRow.holds Try.pinned (OpenSpec.ofChange isaUsesSpec)

/-- ITS FALSE NEIGHBOUR: 'it returns false'. Refute it at one input. -/
def isaUsesWrong : ChangeSpec := { name := "isaUses", fn := fun _ => fun
  | [d] => { results := [.lit (.bool false)], args := [d] }
  | _ => none }
def IsaUsesWrongFalsely : Prop := isaUsesRow.holds Try.pinned (OpenSpec.ofChange isaUsesWrong)

/-- 'kindlinglaw03.IsaTexts': WHATEVER THE INPUT: true; the input reads as it did. -/
def isaTextsSpec : ChangeSpec := { name := "isaTexts", fn := fun _ => fun
  | [d1, d2] => { results := [.lit (.bool true)], args := [d1, d2] }
  | _ => none }
def isaTextsRow : OpenClaim := { program := "ytebjdjdlpmplpaa", sum := "895bc39e598eb36ef434fb51be4cca7f9293a8fd4b83185796e5c10a97fa30b5", func := "kindling/kindlinglaw03.IsaTexts", spec := "isaTexts", apart := false }
def IsaTextsSaid : Prop := isaTextsRow.holds Try.pinned (OpenSpec.ofChange isaTextsSpec)

/-- ITS FALSE NEIGHBOUR: 'it returns false'. Refute it at one input. -/
def isaTextsWrong : ChangeSpec := { name := "isaTexts", fn := fun _ => fun
  | [d1, d2] => { results := [.lit (.bool false)], args := [d1, d2] }
  | _ => none }
def IsaTextsWrongFalsely : Prop := isaTextsRow.holds Try.pinned (OpenSpec.ofChange isaTextsWrong)

/-- 'kindlinglaw03.IsaTextBack': WHATEVER THE INPUT: true; the input reads as it did. -/
def isaTextBackSpec : ChangeSpec := { name := "isaTextBack", fn := fun _ => fun
  | [d1, d2, d3] => { results := [.lit (.bool true)], args := [d1, d2, d3] }
  | _ => none }
def isaTextBackRow : OpenClaim := { program := "ytebjdjdlpmplpaa", sum := "895bc39e598eb36ef434fb51be4cca7f9293a8fd4b83185796e5c10a97fa30b5", func := "kindling/kindlinglaw03.IsaTextBack", spec := "isaTextBack", apart := false }
def IsaTextBackSaid : Prop := isaTextBackRow.holds Try.pinned (OpenSpec.ofChange isaTextBackSpec)

/-- ITS FALSE NEIGHBOUR: 'it returns false'. Refute it at one input. -/
def isaTextBackWrong : ChangeSpec := { name := "isaTextBack", fn := fun _ => fun
  | [d1, d2, d3] => { results := [.lit (.bool false)], args := [d1, d2, d3] }
  | _ => none }
def IsaTextBackWrongFalsely : Prop := isaTextBackRow.holds Try.pinned (OpenSpec.ofChange isaTextBackWrong)

/-- 'kindlinglaw03.IsaLists': WHATEVER THE INPUT: true; the input reads as it did. -/
def isaListsSpec : ChangeSpec := { name := "isaLists", fn := fun _ => fun
  | [d1, d2] => { results := [.lit (.bool true)], args := [d1, d2] }
  | _ => none }
def isaListsRow : OpenClaim := { program := "ytebjdjdlpmplpaa", sum := "895bc39e598eb36ef434fb51be4cca7f9293a8fd4b83185796e5c10a97fa30b5", func := "kindling/kindlinglaw03.IsaLists", spec := "isaLists", unfollowed := true, recurses := true, apart := false }
def IsaListsSaid : Prop := isaListsRow.holds Try.pinned (OpenSpec.ofChange isaListsSpec)

/-- ITS FALSE NEIGHBOUR: 'it returns false'. Refute it at one input. -/
def isaListsWrong : ChangeSpec := { name := "isaLists", fn := fun _ => fun
  | [d1, d2] => { results := [.lit (.bool false)], args := [d1, d2] }
  | _ => none }
def IsaListsWrongFalsely : Prop := isaListsRow.holds Try.pinned (OpenSpec.ofChange isaListsWrong)

/-- 'kindlinglaw03.IsaListBack': WHATEVER THE INPUT: true; the input reads as it did. -/
def isaListBackSpec : ChangeSpec := { name := "isaListBack", fn := fun _ => fun
  | [d1, d2] => { results := [.lit (.bool true)], args := [d1, d2] }
  | _ => none }
def isaListBackRow : OpenClaim := { program := "ytebjdjdlpmplpaa", sum := "895bc39e598eb36ef434fb51be4cca7f9293a8fd4b83185796e5c10a97fa30b5", func := "kindling/kindlinglaw03.IsaListBack", spec := "isaListBack", unfollowed := true, recurses := true, apart := false }
def IsaListBackSaid : Prop := isaListBackRow.holds Try.pinned (OpenSpec.ofChange isaListBackSpec)

/-- ITS FALSE NEIGHBOUR: 'it returns false'. Refute it at one input. -/
def isaListBackWrong : ChangeSpec := { name := "isaListBack", fn := fun _ => fun
  | [d1, d2] => { results := [.lit (.bool false)], args := [d1, d2] }
  | _ => none }
def IsaListBackWrongFalsely : Prop := isaListBackRow.holds Try.pinned (OpenSpec.ofChange isaListBackWrong)

/- THE SECOND FORM. 'bulk': how many values and letters a reading holds, each counted each time it is reached (what is shared counts as often as it is met; a slice's spare places count too). A statement '..UptoSaid' is the law's where the arguments, and the package variables that the reading takes, are together of bulk at most 1048576: NARROWER than '..Said'. Prove '..Said' where nothing that the law and all that it calls make is longer than what came in: it says more and counts as full. Else prove '..UptoSaid'. A law counts once. -/
mutual
def uptoBulk {H : Type} : DataW H → Nat
  | .lit (.string bytes) => bytes.length + 1
  | .lit _ => 1
  | .nil => 1
  | .ptr d => uptoBulk d + 1
  | .slice elems spare => uptoBulkAll elems + uptoBulkAll spare + 1
  | .agg parts => uptoBulkAll parts + 1
  | .iface _ d => uptoBulk d + 1
  | .map entries => uptoBulkEntries entries + 1
  | .held _ => 1
def uptoBulkAll {H : Type} : List (DataW H) → Nat
  | [] => 0
  | d :: r => uptoBulk d + uptoBulkAll r
def uptoBulkEntries {H : Type} : List (Lit × DataW H) → Nat
  | [] => 0
  | x :: r => uptoBulkEntry x + uptoBulkEntries r
def uptoBulkEntry {H : Type} : Lit × DataW H → Nat
  | (.string bytes, d) => bytes.length + uptoBulk d + 1
  | (_, d) => uptoBulk d + 1
 end
def uptoSmall : (H : Type) → List (DataW H) → Bool := fun _ ds => decide (uptoBulkAll ds ≤ 1048576)
def OpenSpec.upto (s : _root_.Go.ChangeSpec) : _root_.Go.OpenSpec := { _root_.Go.OpenSpec.ofChange s with cond := some uptoSmall }

/-- 'kindlinglaw03.IsaNames', WHERE WHAT IT READS IS OF BULK AT MOST 1048576: true; the input reads as it did. -/
def isaNamesUptoRow : OpenClaim := { program := "ytebjdjdlpmplpaa", sum := "895bc39e598eb36ef434fb51be4cca7f9293a8fd4b83185796e5c10a97fa30b5", func := "kindling/kindlinglaw03.IsaNames", spec := "isaNames", apart := false, narrowed := true }
def IsaNamesUptoSaid : Prop := isaNamesUptoRow.holds Try.pinned (OpenSpec.upto isaNamesSpec)

/-- 'kindlinglaw03.IsaEncodes', WHERE WHAT IT READS IS OF BULK AT MOST 1048576: true; the input reads as it did. -/
def isaEncodesUptoRow : OpenClaim := { program := "ytebjdjdlpmplpaa", sum := "895bc39e598eb36ef434fb51be4cca7f9293a8fd4b83185796e5c10a97fa30b5", func := "kindling/kindlinglaw03.IsaEncodes", spec := "isaEncodes", apart := false, narrowed := true }
def IsaEncodesUptoSaid : Prop := isaEncodesUptoRow.holds Try.pinned (OpenSpec.upto isaEncodesSpec)

/-- 'kindlinglaw03.IsaDecodes', WHERE WHAT IT READS IS OF BULK AT MOST 1048576: true; the input reads as it did. -/
def isaDecodesUptoRow : OpenClaim := { program := "ytebjdjdlpmplpaa", sum := "895bc39e598eb36ef434fb51be4cca7f9293a8fd4b83185796e5c10a97fa30b5", func := "kindling/kindlinglaw03.IsaDecodes", spec := "isaDecodes", apart := false, narrowed := true }
def IsaDecodesUptoSaid : Prop := isaDecodesUptoRow.holds Try.pinned (OpenSpec.upto isaDecodesSpec)

/-- 'kindlinglaw03.IsaBack', WHERE WHAT IT READS IS OF BULK AT MOST 1048576: true; the input reads as it did. -/
def isaBackUptoRow : OpenClaim := { program := "ytebjdjdlpmplpaa", sum := "895bc39e598eb36ef434fb51be4cca7f9293a8fd4b83185796e5c10a97fa30b5", func := "kindling/kindlinglaw03.IsaBack", spec := "isaBack", apart := false, narrowed := true }
def IsaBackUptoSaid : Prop := isaBackUptoRow.holds Try.pinned (OpenSpec.upto isaBackSpec)

/-- 'kindlinglaw03.IsaBits', WHERE WHAT IT READS IS OF BULK AT MOST 1048576: true; the input reads as it did. -/
def isaBitsUptoRow : OpenClaim := { program := "ytebjdjdlpmplpaa", sum := "895bc39e598eb36ef434fb51be4cca7f9293a8fd4b83185796e5c10a97fa30b5", func := "kindling/kindlinglaw03.IsaBits", spec := "isaBits", apart := false, narrowed := true }
def IsaBitsUptoSaid : Prop := isaBitsUptoRow.holds Try.pinned (OpenSpec.upto isaBitsSpec)

/-- 'kindlinglaw03.IsaLines', WHERE WHAT IT READS IS OF BULK AT MOST 1048576: true; the input reads as it did. -/
def isaLinesUptoRow : OpenClaim := { program := "ytebjdjdlpmplpaa", sum := "895bc39e598eb36ef434fb51be4cca7f9293a8fd4b83185796e5c10a97fa30b5", func := "kindling/kindlinglaw03.IsaLines", spec := "isaLines", unfollowed := true, recurses := true, apart := false, narrowed := true }
def IsaLinesUptoSaid : Prop := isaLinesUptoRow.holds Try.pinned (OpenSpec.upto isaLinesSpec)

/-- 'kindlinglaw03.IsaUses', WHERE WHAT IT READS IS OF BULK AT MOST 1048576: true; the input reads as it did. -/
def isaUsesUptoRow : OpenClaim := { program := "ytebjdjdlpmplpaa", sum := "895bc39e598eb36ef434fb51be4cca7f9293a8fd4b83185796e5c10a97fa30b5", func := "kindling/kindlinglaw03.IsaUses", spec := "isaUses", apart := false, narrowed := true }
def IsaUsesUptoSaid : Prop := isaUsesUptoRow.holds Try.pinned (OpenSpec.upto isaUsesSpec)

/-- 'kindlinglaw03.IsaTexts', WHERE WHAT IT READS IS OF BULK AT MOST 1048576: true; the input reads as it did. -/
def isaTextsUptoRow : OpenClaim := { program := "ytebjdjdlpmplpaa", sum := "895bc39e598eb36ef434fb51be4cca7f9293a8fd4b83185796e5c10a97fa30b5", func := "kindling/kindlinglaw03.IsaTexts", spec := "isaTexts", apart := false, narrowed := true }
def IsaTextsUptoSaid : Prop := isaTextsUptoRow.holds Try.pinned (OpenSpec.upto isaTextsSpec)

/-- 'kindlinglaw03.IsaTextBack', WHERE WHAT IT READS IS OF BULK AT MOST 1048576: true; the input reads as it did. -/
def isaTextBackUptoRow : OpenClaim := { program := "ytebjdjdlpmplpaa", sum := "895bc39e598eb36ef434fb51be4cca7f9293a8fd4b83185796e5c10a97fa30b5", func := "kindling/kindlinglaw03.IsaTextBack", spec := "isaTextBack", apart := false, narrowed := true }
def IsaTextBackUptoSaid : Prop := isaTextBackUptoRow.holds Try.pinned (OpenSpec.upto isaTextBackSpec)

/-- 'kindlinglaw03.IsaLists', WHERE WHAT IT READS IS OF BULK AT MOST 1048576: true; the input reads as it did. -/
def isaListsUptoRow : OpenClaim := { program := "ytebjdjdlpmplpaa", sum := "895bc39e598eb36ef434fb51be4cca7f9293a8fd4b83185796e5c10a97fa30b5", func := "kindling/kindlinglaw03.IsaLists", spec := "isaLists", unfollowed := true, recurses := true, apart := false, narrowed := true }
def IsaListsUptoSaid : Prop := isaListsUptoRow.holds Try.pinned (OpenSpec.upto isaListsSpec)

/-- 'kindlinglaw03.IsaListBack', WHERE WHAT IT READS IS OF BULK AT MOST 1048576: true; the input reads as it did. -/
def isaListBackUptoRow : OpenClaim := { program := "ytebjdjdlpmplpaa", sum := "895bc39e598eb36ef434fb51be4cca7f9293a8fd4b83185796e5c10a97fa30b5", func := "kindling/kindlinglaw03.IsaListBack", spec := "isaListBack", unfollowed := true, recurses := true, apart := false, narrowed := true }
def IsaListBackUptoSaid : Prop := isaListBackUptoRow.holds Try.pinned (OpenSpec.upto isaListBackSpec)

end Rows
end Go.Proofs.Ytebjdjdlpmplpaa
