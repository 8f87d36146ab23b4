/-
  No cell of these rows narrows 'for every input' (looked for: loops, veiled, ifaces, maps, wideKeys, modest, calm, conditions, laid).
  DERIVED. THE GIVEN ROWS OF THIS SEAT. 11 by the template 'for every input the law returns true; each argument reads behind the call as it read before'; 0 by the template 'total and deterministic' (their statements: YtaliolnndbnfhaaTotals.lean).
  GIVEN WITH THE SEED: the statements are not yours to turn. If you find one false, say at which input.
  Laid BY PROGRAM, IN A SANDBOX (cutbox-rows.mjs): the forced cells as the released guide's own fill.sh prints them over the translation fc1576c5ea4c8b6e… (all of the seat's roots in one cut). By AI agents, Wed Nov 11 2026. No macro, syntax, notation, axiom, sorry.
-/
import Derived.Test.YtaliolnndbnfhaaChecked
import GoSem.Claim
import GoSem.ClaimJoined
import GoSem.ClaimMapViews
import Derived.JoinedTies
import Derived.KernelRfl
namespace Go.Proofs.Ytaliolnndbnfhaa
/- THE CELL 'sum', in the pinned program and in every row, IS THE sha256 OF THE DUMP (.gsa) THAT YtaliolnndbnfhaaProg.lean LOADS. Nothing in Lean hashes anything: it is a label: what it is worth is what the hold of that sum in a sandbox is worth. -/
noncomputable def Try.pinned : Pinned := { name := "ytaliolnndbnfhaa", sum := "fc1576c5ea4c8b6eb760c242b32a52fd984cf20f0bd06e44e28c18585cb899a5", checked := Try.checked }
namespace Rows
def none {H : Type} : Left H := { results := [], args := [] }

/-- 'kindlinglaw02.MemHeads': WHATEVER THE INPUT: true; the input reads as it did. -/
def memHeadsSpec : ChangeSpec := { name := "memHeads", fn := fun _ => fun
  | [d1, d2, d3, d4] => { results := [.lit (.bool true)], args := [d1, d2, d3, d4] }
  | _ => none }
def memHeadsRow : OpenClaim := { program := "ytaliolnndbnfhaa", sum := "fc1576c5ea4c8b6eb760c242b32a52fd984cf20f0bd06e44e28c18585cb899a5", func := "kindling/kindlinglaw02.MemHeads", spec := "memHeads", apart := false }
def MemHeadsSaid : Prop := memHeadsRow.holds Try.pinned (OpenSpec.ofChange memHeadsSpec)

/-- ITS FALSE NEIGHBOUR: 'it returns false'. Refute it at one input. -/
def memHeadsWrong : ChangeSpec := { name := "memHeads", fn := fun _ => fun
  | [d1, d2, d3, d4] => { results := [.lit (.bool false)], args := [d1, d2, d3, d4] }
  | _ => none }
def MemHeadsWrongFalsely : Prop := memHeadsRow.holds Try.pinned (OpenSpec.ofChange memHeadsWrong)

/-- 'kindlinglaw02.MemHeadBack': WHATEVER THE INPUT: true; the input reads as it did. -/
def memHeadBackSpec : ChangeSpec := { name := "memHeadBack", fn := fun _ => fun
  | [d1, d2, d3, d4] => { results := [.lit (.bool true)], args := [d1, d2, d3, d4] }
  | _ => none }
def memHeadBackRow : OpenClaim := { program := "ytaliolnndbnfhaa", sum := "fc1576c5ea4c8b6eb760c242b32a52fd984cf20f0bd06e44e28c18585cb899a5", func := "kindling/kindlinglaw02.MemHeadBack", spec := "memHeadBack", apart := false }
def MemHeadBackSaid : Prop := memHeadBackRow.holds Try.pinned (OpenSpec.ofChange memHeadBackSpec)

/-- ITS FALSE NEIGHBOUR: 'it returns false'. Refute it at one input. -/
def memHeadBackWrong : ChangeSpec := { name := "memHeadBack", fn := fun _ => fun
  | [d1, d2, d3, d4] => { results := [.lit (.bool false)], args := [d1, d2, d3, d4] }
  | _ => none }
def MemHeadBackWrongFalsely : Prop := memHeadBackRow.holds Try.pinned (OpenSpec.ofChange memHeadBackWrong)

/-- 'kindlinglaw02.MemFull': WHATEVER THE INPUT: true; the input reads as it did. -/
def memFullSpec : ChangeSpec := { name := "memFull", fn := fun _ => fun
  | [d1, d2] => { results := [.lit (.bool true)], args := [d1, d2] }
  | _ => none }
def memFullRow : OpenClaim := { program := "ytaliolnndbnfhaa", sum := "fc1576c5ea4c8b6eb760c242b32a52fd984cf20f0bd06e44e28c18585cb899a5", func := "kindling/kindlinglaw02.MemFull", spec := "memFull", apart := false }
def MemFullSaid : Prop := memFullRow.holds Try.pinned (OpenSpec.ofChange memFullSpec)

/-- ITS FALSE NEIGHBOUR: 'it returns false'. Refute it at one input. -/
def memFullWrong : ChangeSpec := { name := "memFull", fn := fun _ => fun
  | [d1, d2] => { results := [.lit (.bool false)], args := [d1, d2] }
  | _ => none }
def MemFullWrongFalsely : Prop := memFullRow.holds Try.pinned (OpenSpec.ofChange memFullWrong)

/-- 'kindlinglaw02.MemApart': WHATEVER THE INPUT: true; the input reads as it did. -/
def memApartSpec : ChangeSpec := { name := "memApart", fn := fun _ => fun
  | [d1, d2, d3, d4, d5] => { results := [.lit (.bool true)], args := [d1, d2, d3, d4, d5] }
  | _ => none }
def memApartRow : OpenClaim := { program := "ytaliolnndbnfhaa", sum := "fc1576c5ea4c8b6eb760c242b32a52fd984cf20f0bd06e44e28c18585cb899a5", func := "kindling/kindlinglaw02.MemApart", spec := "memApart", apart := false }
def MemApartSaid : Prop := memApartRow.holds Try.pinned (OpenSpec.ofChange memApartSpec)

/-- ITS FALSE NEIGHBOUR: 'it returns false'. Refute it at one input. -/
def memApartWrong : ChangeSpec := { name := "memApart", fn := fun _ => fun
  | [d1, d2, d3, d4, d5] => { results := [.lit (.bool false)], args := [d1, d2, d3, d4, d5] }
  | _ => none }
def MemApartWrongFalsely : Prop := memApartRow.holds Try.pinned (OpenSpec.ofChange memApartWrong)

/-- 'kindlinglaw02.MemFresh': WHATEVER THE INPUT: true; the input reads as it did. -/
def memFreshSpec : ChangeSpec := { name := "memFresh", fn := fun _ => fun
  | [d1, d2, d3, d4] => { results := [.lit (.bool true)], args := [d1, d2, d3, d4] }
  | _ => none }
def memFreshRow : OpenClaim := { program := "ytaliolnndbnfhaa", sum := "fc1576c5ea4c8b6eb760c242b32a52fd984cf20f0bd06e44e28c18585cb899a5", func := "kindling/kindlinglaw02.MemFresh", spec := "memFresh", apart := false }
def MemFreshSaid : Prop := memFreshRow.holds Try.pinned (OpenSpec.ofChange memFreshSpec)

/-- ITS FALSE NEIGHBOUR: 'it returns false'. Refute it at one input. -/
def memFreshWrong : ChangeSpec := { name := "memFresh", fn := fun _ => fun
  | [d1, d2, d3, d4] => { results := [.lit (.bool false)], args := [d1, d2, d3, d4] }
  | _ => none }
def MemFreshWrongFalsely : Prop := memFreshRow.holds Try.pinned (OpenSpec.ofChange memFreshWrong)

/-- 'kindlinglaw02.MemRoom': WHATEVER THE INPUT: true; the input reads as it did. -/
def memRoomSpec : ChangeSpec := { name := "memRoom", fn := fun _ => fun
  | [d1, d2] => { results := [.lit (.bool true)], args := [d1, d2] }
  | _ => none }
def memRoomRow : OpenClaim := { program := "ytaliolnndbnfhaa", sum := "fc1576c5ea4c8b6eb760c242b32a52fd984cf20f0bd06e44e28c18585cb899a5", func := "kindling/kindlinglaw02.MemRoom", spec := "memRoom", apart := false }
def MemRoomSaid : Prop := memRoomRow.holds Try.pinned (OpenSpec.ofChange memRoomSpec)

/-- ITS FALSE NEIGHBOUR: 'it returns false'. Refute it at one input. -/
def memRoomWrong : ChangeSpec := { name := "memRoom", fn := fun _ => fun
  | [d1, d2] => { results := [.lit (.bool false)], args := [d1, d2] }
  | _ => none }
def MemRoomWrongFalsely : Prop := memRoomRow.holds Try.pinned (OpenSpec.ofChange memRoomWrong)

/-- 'kindlinglaw02.MemCopies': WHATEVER THE INPUT: true; the input reads as it did. -/
def memCopiesSpec : ChangeSpec := { name := "memCopies", fn := fun _ => fun
  | [d1, d2, d3] => { results := [.lit (.bool true)], args := [d1, d2, d3] }
  | _ => none }
def memCopiesRow : OpenClaim := { program := "ytaliolnndbnfhaa", sum := "fc1576c5ea4c8b6eb760c242b32a52fd984cf20f0bd06e44e28c18585cb899a5", func := "kindling/kindlinglaw02.MemCopies", spec := "memCopies", apart := false }
def MemCopiesSaid : Prop := memCopiesRow.holds Try.pinned (OpenSpec.ofChange memCopiesSpec)

/-- ITS FALSE NEIGHBOUR: 'it returns false'. Refute it at one input. -/
def memCopiesWrong : ChangeSpec := { name := "memCopies", fn := fun _ => fun
  | [d1, d2, d3] => { results := [.lit (.bool false)], args := [d1, d2, d3] }
  | _ => none }
def MemCopiesWrongFalsely : Prop := memCopiesRow.holds Try.pinned (OpenSpec.ofChange memCopiesWrong)

/-- 'kindlinglaw02.MemTwice': WHATEVER THE INPUT: true; the input reads as it did. -/
def memTwiceSpec : ChangeSpec := { name := "memTwice", fn := fun _ => fun
  | [d1, d2] => { results := [.lit (.bool true)], args := [d1, d2] }
  | _ => none }
def memTwiceRow : OpenClaim := { program := "ytaliolnndbnfhaa", sum := "fc1576c5ea4c8b6eb760c242b32a52fd984cf20f0bd06e44e28c18585cb899a5", func := "kindling/kindlinglaw02.MemTwice", spec := "memTwice", apart := false }
def MemTwiceSaid : Prop := memTwiceRow.holds Try.pinned (OpenSpec.ofChange memTwiceSpec)

/-- ITS FALSE NEIGHBOUR: 'it returns false'. Refute it at one input. -/
def memTwiceWrong : ChangeSpec := { name := "memTwice", fn := fun _ => fun
  | [d1, d2] => { results := [.lit (.bool false)], args := [d1, d2] }
  | _ => none }
def MemTwiceWrongFalsely : Prop := memTwiceRow.holds Try.pinned (OpenSpec.ofChange memTwiceWrong)

/-- 'kindlinglaw02.MemMoves': WHATEVER THE INPUT: true; the input reads as it did. -/
def memMovesSpec : ChangeSpec := { name := "memMoves", fn := fun _ => fun
  | [d1, d2, d3] => { results := [.lit (.bool true)], args := [d1, d2, d3] }
  | _ => none }
def memMovesRow : OpenClaim := { program := "ytaliolnndbnfhaa", sum := "fc1576c5ea4c8b6eb760c242b32a52fd984cf20f0bd06e44e28c18585cb899a5", func := "kindling/kindlinglaw02.MemMoves", spec := "memMoves", apart := false }
def MemMovesSaid : Prop := memMovesRow.holds Try.pinned (OpenSpec.ofChange memMovesSpec)

/-- ITS FALSE NEIGHBOUR: 'it returns false'. Refute it at one input. -/
def memMovesWrong : ChangeSpec := { name := "memMoves", fn := fun _ => fun
  | [d1, d2, d3] => { results := [.lit (.bool false)], args := [d1, d2, d3] }
  | _ => none }
def MemMovesWrongFalsely : Prop := memMovesRow.holds Try.pinned (OpenSpec.ofChange memMovesWrong)

/-- 'kindlinglaw02.MemPlays': WHATEVER THE INPUT: true; the input reads as it did. -/
def memPlaysSpec : ChangeSpec := { name := "memPlays", fn := fun _ => fun
  | [d1, d2] => { results := [.lit (.bool true)], args := [d1, d2] }
  | _ => none }
def memPlaysRow : OpenClaim := { program := "ytaliolnndbnfhaa", sum := "fc1576c5ea4c8b6eb760c242b32a52fd984cf20f0bd06e44e28c18585cb899a5", func := "kindling/kindlinglaw02.MemPlays", spec := "memPlays", unfollowed := true, recurses := true, apart := false }
def MemPlaysSaid : Prop := memPlaysRow.holds Try.pinned (OpenSpec.ofChange memPlaysSpec)

/-- ITS FALSE NEIGHBOUR: 'it returns false'. Refute it at one input. -/
def memPlaysWrong : ChangeSpec := { name := "memPlays", fn := fun _ => fun
  | [d1, d2] => { results := [.lit (.bool false)], args := [d1, d2] }
  | _ => none }
def MemPlaysWrongFalsely : Prop := memPlaysRow.holds Try.pinned (OpenSpec.ofChange memPlaysWrong)

/-- 'kindlinglaw02.MemNil': WHATEVER THE INPUT: true; the input reads as it did. -/
def memNilSpec : ChangeSpec := { name := "memNil", fn := fun _ => fun
  | [] => { results := [.lit (.bool true)], args := [] }
  | _ => none }
def memNilRow : OpenClaim := { program := "ytaliolnndbnfhaa", sum := "fc1576c5ea4c8b6eb760c242b32a52fd984cf20f0bd06e44e28c18585cb899a5", func := "kindling/kindlinglaw02.MemNil", spec := "memNil", unfollowed := true, recurses := true, apart := false }
def MemNilSaid : Prop := memNilRow.holds Try.pinned (OpenSpec.ofChange memNilSpec)

/-- ITS FALSE NEIGHBOUR: 'it returns false'. Refute it at one input. -/
def memNilWrong : ChangeSpec := { name := "memNil", fn := fun _ => fun
  | [] => { results := [.lit (.bool false)], args := [] }
  | _ => none }
def MemNilWrongFalsely : Prop := memNilRow.holds Try.pinned (OpenSpec.ofChange memNilWrong)

/- THE SECOND FORM. 'bulk': how many values and letters a reading holds, each counted each time it is reached (what is shared counts as often as it is met; a slice's spare places count too). A statement '..UptoSaid' is the law's where the arguments, and the package variables that the reading takes, are together of bulk at most 1048576: NARROWER than '..Said'. Prove '..Said' where nothing that the law and all that it calls make is longer than what came in: it says more and counts as full. Else prove '..UptoSaid'. A law counts once. -/
mutual
def uptoBulk {H : Type} : DataW H → Nat
  | .lit (.string bytes) => bytes.length + 1
  | .lit _ => 1
  | .nil => 1
  | .ptr d => uptoBulk d + 1
  | .slice elems spare => uptoBulkAll elems + uptoBulkAll spare + 1
  | .agg parts => uptoBulkAll parts + 1
  | .iface _ d => uptoBulk d + 1
  | .map entries => uptoBulkEntries entries + 1
  | .held _ => 1
def uptoBulkAll {H : Type} : List (DataW H) → Nat
  | [] => 0
  | d :: r => uptoBulk d + uptoBulkAll r
def uptoBulkEntries {H : Type} : List (Lit × DataW H) → Nat
  | [] => 0
  | x :: r => uptoBulkEntry x + uptoBulkEntries r
def uptoBulkEntry {H : Type} : Lit × DataW H → Nat
  | (.string bytes, d) => bytes.length + uptoBulk d + 1
  | (_, d) => uptoBulk d + 1
 end
def uptoSmall : (H : Type) → List (DataW H) → Bool := fun _ ds => decide (uptoBulkAll ds ≤ 1048576)
def OpenSpec.upto (s : _root_.Go.ChangeSpec) : _root_.Go.OpenSpec := { _root_.Go.OpenSpec.ofChange s with cond := some uptoSmall }

/-- 'kindlinglaw02.MemHeads', WHERE WHAT IT READS IS OF BULK AT MOST 1048576: true; the input reads as it did. -/
def memHeadsUptoRow : OpenClaim := { program := "ytaliolnndbnfhaa", sum := "fc1576c5ea4c8b6eb760c242b32a52fd984cf20f0bd06e44e28c18585cb899a5", func := "kindling/kindlinglaw02.MemHeads", spec := "memHeads", apart := false, narrowed := true }
def MemHeadsUptoSaid : Prop := memHeadsUptoRow.holds Try.pinned (OpenSpec.upto memHeadsSpec)

/-- 'kindlinglaw02.MemHeadBack', WHERE WHAT IT READS IS OF BULK AT MOST 1048576: true; the input reads as it did. -/
def memHeadBackUptoRow : OpenClaim := { program := "ytaliolnndbnfhaa", sum := "fc1576c5ea4c8b6eb760c242b32a52fd984cf20f0bd06e44e28c18585cb899a5", func := "kindling/kindlinglaw02.MemHeadBack", spec := "memHeadBack", apart := false, narrowed := true }
def MemHeadBackUptoSaid : Prop := memHeadBackUptoRow.holds Try.pinned (OpenSpec.upto memHeadBackSpec)

/-- 'kindlinglaw02.MemFull', WHERE WHAT IT READS IS OF BULK AT MOST 1048576: true; the input reads as it did. -/
def memFullUptoRow : OpenClaim := { program := "ytaliolnndbnfhaa", sum := "fc1576c5ea4c8b6eb760c242b32a52fd984cf20f0bd06e44e28c18585cb899a5", func := "kindling/kindlinglaw02.MemFull", spec := "memFull", apart := false, narrowed := true }
def MemFullUptoSaid : Prop := memFullUptoRow.holds Try.pinned (OpenSpec.upto memFullSpec)

/-- 'kindlinglaw02.MemApart', WHERE WHAT IT READS IS OF BULK AT MOST 1048576: true; the input reads as it did. -/
def memApartUptoRow : OpenClaim := { program := "ytaliolnndbnfhaa", sum := "fc1576c5ea4c8b6eb760c242b32a52fd984cf20f0bd06e44e28c18585cb899a5", func := "kindling/kindlinglaw02.MemApart", spec := "memApart", apart := false, narrowed := true }
def MemApartUptoSaid : Prop := memApartUptoRow.holds Try.pinned (OpenSpec.upto memApartSpec)

/-- 'kindlinglaw02.MemFresh', WHERE WHAT IT READS IS OF BULK AT MOST 1048576: true; the input reads as it did. -/
def memFreshUptoRow : OpenClaim := { program := "ytaliolnndbnfhaa", sum := "fc1576c5ea4c8b6eb760c242b32a52fd984cf20f0bd06e44e28c18585cb899a5", func := "kindling/kindlinglaw02.MemFresh", spec := "memFresh", apart := false, narrowed := true }
def MemFreshUptoSaid : Prop := memFreshUptoRow.holds Try.pinned (OpenSpec.upto memFreshSpec)

/-- 'kindlinglaw02.MemRoom', WHERE WHAT IT READS IS OF BULK AT MOST 1048576: true; the input reads as it did. -/
def memRoomUptoRow : OpenClaim := { program := "ytaliolnndbnfhaa", sum := "fc1576c5ea4c8b6eb760c242b32a52fd984cf20f0bd06e44e28c18585cb899a5", func := "kindling/kindlinglaw02.MemRoom", spec := "memRoom", apart := false, narrowed := true }
def MemRoomUptoSaid : Prop := memRoomUptoRow.holds Try.pinned (OpenSpec.upto memRoomSpec)

/-- 'kindlinglaw02.MemCopies', WHERE WHAT IT READS IS OF BULK AT MOST 1048576: true; the input reads as it did. -/
def memCopiesUptoRow : OpenClaim := { program := "ytaliolnndbnfhaa", sum := "fc1576c5ea4c8b6eb760c242b32a52fd984cf20f0bd06e44e28c18585cb899a5", func := "kindling/kindlinglaw02.MemCopies", spec := "memCopies", apart := false, narrowed := true }
def MemCopiesUptoSaid : Prop := memCopiesUptoRow.holds Try.pinned (OpenSpec.upto memCopiesSpec)

/-- 'kindlinglaw02.MemTwice', WHERE WHAT IT READS IS OF BULK AT MOST 1048576: true; the input reads as it did. -/
def memTwiceUptoRow : OpenClaim := { program := "ytaliolnndbnfhaa", sum := "fc1576c5ea4c8b6eb760c242b32a52fd984cf20f0bd06e44e28c18585cb899a5", func := "kindling/kindlinglaw02.MemTwice", spec := "memTwice", apart := false, narrowed := true }
def MemTwiceUptoSaid : Prop := memTwiceUptoRow.holds Try.pinned (OpenSpec.upto memTwiceSpec)

/-- 'kindlinglaw02.MemMoves', WHERE WHAT IT READS IS OF BULK AT MOST 1048576: true; the input reads as it did. -/
def memMovesUptoRow : OpenClaim := { program := "ytaliolnndbnfhaa", sum := "fc1576c5ea4c8b6eb760c242b32a52fd984cf20f0bd06e44e28c18585cb899a5", func := "kindling/kindlinglaw02.MemMoves", spec := "memMoves", apart := false, narrowed := true }
def MemMovesUptoSaid : Prop := memMovesUptoRow.holds Try.pinned (OpenSpec.upto memMovesSpec)

/-- 'kindlinglaw02.MemPlays', WHERE WHAT IT READS IS OF BULK AT MOST 1048576: true; the input reads as it did. -/
def memPlaysUptoRow : OpenClaim := { program := "ytaliolnndbnfhaa", sum := "fc1576c5ea4c8b6eb760c242b32a52fd984cf20f0bd06e44e28c18585cb899a5", func := "kindling/kindlinglaw02.MemPlays", spec := "memPlays", unfollowed := true, recurses := true, apart := false, narrowed := true }
def MemPlaysUptoSaid : Prop := memPlaysUptoRow.holds Try.pinned (OpenSpec.upto memPlaysSpec)

/-- 'kindlinglaw02.MemNil', WHERE WHAT IT READS IS OF BULK AT MOST 1048576: true; the input reads as it did. -/
def memNilUptoRow : OpenClaim := { program := "ytaliolnndbnfhaa", sum := "fc1576c5ea4c8b6eb760c242b32a52fd984cf20f0bd06e44e28c18585cb899a5", func := "kindling/kindlinglaw02.MemNil", spec := "memNil", unfollowed := true, recurses := true, apart := false, narrowed := true }
def MemNilUptoSaid : Prop := memNilUptoRow.holds Try.pinned (OpenSpec.upto memNilSpec)

end Rows
end Go.Proofs.Ytaliolnndbnfhaa
