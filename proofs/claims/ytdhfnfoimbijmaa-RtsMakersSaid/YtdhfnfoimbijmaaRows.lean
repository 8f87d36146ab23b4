/-
  NARROWER THAN 'FOR EVERY INPUT', by the rows' own cells (each row's printed sentence says how): RtsMoves: loops · RtsShort: loops.
  DERIVED. THE GIVEN ROWS OF THIS SEAT. 10 by the template 'for every input the law returns true; each argument reads behind the call as it read before'; 0 by the template 'total and deterministic' (their statements: YtdhfnfoimbijmaaTotals.lean).
  GIVEN WITH THE SEED: the statements are not yours to turn. If you find one false, say at which input.
  Laid BY PROGRAM, IN A SANDBOX (cutbox-rows.mjs): the forced cells as the released guide's own fill.sh prints them over the translation df038d9c0f4ec04b… (all of the seat's roots in one cut). By AI agents, Wed Nov 11 2026. No macro, syntax, notation, axiom, sorry.
-/
import Derived.Test.YtdhfnfoimbijmaaChecked
import GoSem.Claim
import GoSem.ClaimJoined
import GoSem.ClaimMapViews
import Derived.JoinedTies
import Derived.KernelRfl
namespace Go.Proofs.Ytdhfnfoimbijmaa
/- THE CELL 'sum', in the pinned program and in every row, IS THE sha256 OF THE DUMP (.gsa) THAT YtdhfnfoimbijmaaProg.lean LOADS. Nothing in Lean hashes anything: it is a label: what it is worth is what the hold of that sum in a sandbox is worth. -/
noncomputable def Try.pinned : Pinned := { name := "ytdhfnfoimbijmaa", sum := "df038d9c0f4ec04bb824d00fb999a2e894db4dbce2059ef64c09b557a3ea0bf4", checked := Try.checked }
namespace Rows
def none {H : Type} : Left H := { results := [], args := [] }

/-- 'kindlinglaw05.RtsMakers': WHATEVER THE INPUT: true; the input reads as it did. -/
def rtsMakersSpec : ChangeSpec := { name := "rtsMakers", fn := fun _ => fun
  | [] => { results := [.lit (.bool true)], args := [] }
  | _ => none }
def rtsMakersRow : OpenClaim := { program := "ytdhfnfoimbijmaa", sum := "df038d9c0f4ec04bb824d00fb999a2e894db4dbce2059ef64c09b557a3ea0bf4", func := "kindling/kindlinglaw05.RtsMakers", spec := "rtsMakers", unfollowed := true, recurses := true, apart := false }
def RtsMakersSaid : Prop := rtsMakersRow.holds Try.pinned (OpenSpec.ofChange rtsMakersSpec)

/-- ITS FALSE NEIGHBOUR: 'it returns false'. Refute it at one input. -/
def rtsMakersWrong : ChangeSpec := { name := "rtsMakers", fn := fun _ => fun
  | [] => { results := [.lit (.bool false)], args := [] }
  | _ => none }
def RtsMakersWrongFalsely : Prop := rtsMakersRow.holds Try.pinned (OpenSpec.ofChange rtsMakersWrong)

/-- 'kindlinglaw05.RtsMoves': WHATEVER THE INPUT: true; the input reads as it did. -/
def rtsMovesSpec : ChangeSpec := { name := "rtsMoves", fn := fun _ => fun
  | [d1, d2, d3, d4, d5] => { results := [.lit (.bool true)], args := [d1, d2, d3, d4, d5] }
  | _ => none }
def rtsMovesRow : OpenClaim := { program := "ytdhfnfoimbijmaa", sum := "df038d9c0f4ec04bb824d00fb999a2e894db4dbce2059ef64c09b557a3ea0bf4", func := "kindling/kindlinglaw05.RtsMoves", spec := "rtsMoves", unfollowed := true, recurses := true, loops := true, apart := false }
def RtsMovesSaid : Prop := rtsMovesRow.holds Try.pinned (OpenSpec.ofChange rtsMovesSpec)

/-- ITS FALSE NEIGHBOUR: 'it returns false'. Refute it at one input. -/
def rtsMovesWrong : ChangeSpec := { name := "rtsMoves", fn := fun _ => fun
  | [d1, d2, d3, d4, d5] => { results := [.lit (.bool false)], args := [d1, d2, d3, d4, d5] }
  | _ => none }
def RtsMovesWrongFalsely : Prop := rtsMovesRow.holds Try.pinned (OpenSpec.ofChange rtsMovesWrong)

/-- 'kindlinglaw05.RtsTexts': WHATEVER THE INPUT: true; the input reads as it did. -/
def rtsTextsSpec : ChangeSpec := { name := "rtsTexts", fn := fun _ => fun
  | [d1, d2] => { results := [.lit (.bool true)], args := [d1, d2] }
  | _ => none }
def rtsTextsRow : OpenClaim := { program := "ytdhfnfoimbijmaa", sum := "df038d9c0f4ec04bb824d00fb999a2e894db4dbce2059ef64c09b557a3ea0bf4", func := "kindling/kindlinglaw05.RtsTexts", spec := "rtsTexts", unfollowed := true, recurses := true, apart := false }
def RtsTextsSaid : Prop := rtsTextsRow.holds Try.pinned (OpenSpec.ofChange rtsTextsSpec)

/-- ITS FALSE NEIGHBOUR: 'it returns false'. Refute it at one input. -/
def rtsTextsWrong : ChangeSpec := { name := "rtsTexts", fn := fun _ => fun
  | [d1, d2] => { results := [.lit (.bool false)], args := [d1, d2] }
  | _ => none }
def RtsTextsWrongFalsely : Prop := rtsTextsRow.holds Try.pinned (OpenSpec.ofChange rtsTextsWrong)

/-- 'kindlinglaw05.RtsTextBack': WHATEVER THE INPUT: true; the input reads as it did. -/
def rtsTextBackSpec : ChangeSpec := { name := "rtsTextBack", fn := fun _ => fun
  | [d] => { results := [.lit (.bool true)], args := [d] }
  | _ => none }
def rtsTextBackRow : OpenClaim := { program := "ytdhfnfoimbijmaa", sum := "df038d9c0f4ec04bb824d00fb999a2e894db4dbce2059ef64c09b557a3ea0bf4", func := "kindling/kindlinglaw05.RtsTextBack", spec := "rtsTextBack", unfollowed := true, recurses := true, apart := false }
def RtsTextBackSaid : Prop := rtsTextBackRow.holds Try.pinned (OpenSpec.ofChange rtsTextBackSpec)

/-- ITS FALSE NEIGHBOUR: 'it returns false'. Refute it at one input. -/
def rtsTextBackWrong : ChangeSpec := { name := "rtsTextBack", fn := fun _ => fun
  | [d] => { results := [.lit (.bool false)], args := [d] }
  | _ => none }
def RtsTextBackWrongFalsely : Prop := rtsTextBackRow.holds Try.pinned (OpenSpec.ofChange rtsTextBackWrong)

/-- 'kindlinglaw05.RtsGets': WHATEVER THE INPUT: true; the input reads as it did. -/
def rtsGetsSpec : ChangeSpec := { name := "rtsGets", fn := fun _ => fun
  | [d1, d2, d3] => { results := [.lit (.bool true)], args := [d1, d2, d3] }
  | _ => none }
def rtsGetsRow : OpenClaim := { program := "ytdhfnfoimbijmaa", sum := "df038d9c0f4ec04bb824d00fb999a2e894db4dbce2059ef64c09b557a3ea0bf4", func := "kindling/kindlinglaw05.RtsGets", spec := "rtsGets", unfollowed := true, recurses := true, apart := false }
def RtsGetsSaid : Prop := rtsGetsRow.holds Try.pinned (OpenSpec.ofChange rtsGetsSpec)

/-- ITS FALSE NEIGHBOUR: 'it returns false'. Refute it at one input. -/
def rtsGetsWrong : ChangeSpec := { name := "rtsGets", fn := fun _ => fun
  | [d1, d2, d3] => { results := [.lit (.bool false)], args := [d1, d2, d3] }
  | _ => none }
def RtsGetsWrongFalsely : Prop := rtsGetsRow.holds Try.pinned (OpenSpec.ofChange rtsGetsWrong)

/-- 'kindlinglaw05.RtsSame': WHATEVER THE INPUT: true; the input reads as it did. -/
def rtsSameSpec : ChangeSpec := { name := "rtsSame", fn := fun _ => fun
  | [d1, d2, d3, d4] => { results := [.lit (.bool true)], args := [d1, d2, d3, d4] }
  | _ => none }
def rtsSameRow : OpenClaim := { program := "ytdhfnfoimbijmaa", sum := "df038d9c0f4ec04bb824d00fb999a2e894db4dbce2059ef64c09b557a3ea0bf4", func := "kindling/kindlinglaw05.RtsSame", spec := "rtsSame", unfollowed := true, recurses := true, apart := false }
def RtsSameSaid : Prop := rtsSameRow.holds Try.pinned (OpenSpec.ofChange rtsSameSpec)

/-- ITS FALSE NEIGHBOUR: 'it returns false'. Refute it at one input. -/
def rtsSameWrong : ChangeSpec := { name := "rtsSame", fn := fun _ => fun
  | [d1, d2, d3, d4] => { results := [.lit (.bool false)], args := [d1, d2, d3, d4] }
  | _ => none }
def RtsSameWrongFalsely : Prop := rtsSameRow.holds Try.pinned (OpenSpec.ofChange rtsSameWrong)

/-- 'kindlinglaw05.RtsTurns': WHATEVER THE INPUT: true; the input reads as it did. -/
def rtsTurnsSpec : ChangeSpec := { name := "rtsTurns", fn := fun _ => fun
  | [d1, d2, d3, d4] => { results := [.lit (.bool true)], args := [d1, d2, d3, d4] }
  | _ => none }
def rtsTurnsRow : OpenClaim := { program := "ytdhfnfoimbijmaa", sum := "df038d9c0f4ec04bb824d00fb999a2e894db4dbce2059ef64c09b557a3ea0bf4", func := "kindling/kindlinglaw05.RtsTurns", spec := "rtsTurns", unfollowed := true, recurses := true, apart := false }
def RtsTurnsSaid : Prop := rtsTurnsRow.holds Try.pinned (OpenSpec.ofChange rtsTurnsSpec)

/-- ITS FALSE NEIGHBOUR: 'it returns false'. Refute it at one input. -/
def rtsTurnsWrong : ChangeSpec := { name := "rtsTurns", fn := fun _ => fun
  | [d1, d2, d3, d4] => { results := [.lit (.bool false)], args := [d1, d2, d3, d4] }
  | _ => none }
def RtsTurnsWrongFalsely : Prop := rtsTurnsRow.holds Try.pinned (OpenSpec.ofChange rtsTurnsWrong)

/-- 'kindlinglaw05.RtsShort': WHATEVER THE INPUT: true; the input reads as it did. -/
def rtsShortSpec : ChangeSpec := { name := "rtsShort", fn := fun _ => fun
  | [d1, d2, d3, d4] => { results := [.lit (.bool true)], args := [d1, d2, d3, d4] }
  | _ => none }
def rtsShortRow : OpenClaim := { program := "ytdhfnfoimbijmaa", sum := "df038d9c0f4ec04bb824d00fb999a2e894db4dbce2059ef64c09b557a3ea0bf4", func := "kindling/kindlinglaw05.RtsShort", spec := "rtsShort", unfollowed := true, recurses := true, loops := true, apart := false }
def RtsShortSaid : Prop := rtsShortRow.holds Try.pinned (OpenSpec.ofChange rtsShortSpec)

/-- ITS FALSE NEIGHBOUR: 'it returns false'. Refute it at one input. -/
def rtsShortWrong : ChangeSpec := { name := "rtsShort", fn := fun _ => fun
  | [d1, d2, d3, d4] => { results := [.lit (.bool false)], args := [d1, d2, d3, d4] }
  | _ => none }
def RtsShortWrongFalsely : Prop := rtsShortRow.holds Try.pinned (OpenSpec.ofChange rtsShortWrong)

/-- 'kindlinglaw05.RtsQuotes': WHATEVER THE INPUT: true; the input reads as it did. -/
def rtsQuotesSpec : ChangeSpec := { name := "rtsQuotes", fn := fun _ => fun
  | [d1, d2] => { results := [.lit (.bool true)], args := [d1, d2] }
  | _ => none }
def rtsQuotesRow : OpenClaim := { program := "ytdhfnfoimbijmaa", sum := "df038d9c0f4ec04bb824d00fb999a2e894db4dbce2059ef64c09b557a3ea0bf4", func := "kindling/kindlinglaw05.RtsQuotes", spec := "rtsQuotes", unfollowed := true, recurses := true, apart := false }
def RtsQuotesSaid : Prop := rtsQuotesRow.holds Try.pinned (OpenSpec.ofChange rtsQuotesSpec)

/-- ITS FALSE NEIGHBOUR: 'it returns false'. Refute it at one input. -/
def rtsQuotesWrong : ChangeSpec := { name := "rtsQuotes", fn := fun _ => fun
  | [d1, d2] => { results := [.lit (.bool false)], args := [d1, d2] }
  | _ => none }
def RtsQuotesWrongFalsely : Prop := rtsQuotesRow.holds Try.pinned (OpenSpec.ofChange rtsQuotesWrong)

/-- 'kindlinglaw05.RtsNil': WHATEVER THE INPUT: true; the input reads as it did. -/
def rtsNilSpec : ChangeSpec := { name := "rtsNil", fn := fun _ => fun
  | [] => { results := [.lit (.bool true)], args := [] }
  | _ => none }
def rtsNilRow : OpenClaim := { program := "ytdhfnfoimbijmaa", sum := "df038d9c0f4ec04bb824d00fb999a2e894db4dbce2059ef64c09b557a3ea0bf4", func := "kindling/kindlinglaw05.RtsNil", spec := "rtsNil", unfollowed := true, recurses := true, apart := false }
def RtsNilSaid : Prop := rtsNilRow.holds Try.pinned (OpenSpec.ofChange rtsNilSpec)

/-- ITS FALSE NEIGHBOUR: 'it returns false'. Refute it at one input. -/
def rtsNilWrong : ChangeSpec := { name := "rtsNil", fn := fun _ => fun
  | [] => { results := [.lit (.bool false)], args := [] }
  | _ => none }
def RtsNilWrongFalsely : Prop := rtsNilRow.holds Try.pinned (OpenSpec.ofChange rtsNilWrong)

/- THE SECOND FORM. 'bulk': how many values and letters a reading holds, each counted each time it is reached (what is shared counts as often as it is met; a slice's spare places count too). A statement '..UptoSaid' is the law's where the arguments, and the package variables that the reading takes, are together of bulk at most 1048576: NARROWER than '..Said'. Prove '..Said' where nothing that the law and all that it calls make is longer than what came in: it says more and counts as full. Else prove '..UptoSaid'. A law counts once. -/
mutual
def uptoBulk {H : Type} : DataW H → Nat
  | .lit (.string bytes) => bytes.length + 1
  | .lit _ => 1
  | .nil => 1
  | .ptr d => uptoBulk d + 1
  | .slice elems spare => uptoBulkAll elems + uptoBulkAll spare + 1
  | .agg parts => uptoBulkAll parts + 1
  | .iface _ d => uptoBulk d + 1
  | .map entries => uptoBulkEntries entries + 1
  | .held _ => 1
def uptoBulkAll {H : Type} : List (DataW H) → Nat
  | [] => 0
  | d :: r => uptoBulk d + uptoBulkAll r
def uptoBulkEntries {H : Type} : List (Lit × DataW H) → Nat
  | [] => 0
  | x :: r => uptoBulkEntry x + uptoBulkEntries r
def uptoBulkEntry {H : Type} : Lit × DataW H → Nat
  | (.string bytes, d) => bytes.length + uptoBulk d + 1
  | (_, d) => uptoBulk d + 1
 end
def uptoSmall : (H : Type) → List (DataW H) → Bool := fun _ ds => decide (uptoBulkAll ds ≤ 1048576)
def OpenSpec.upto (s : _root_.Go.ChangeSpec) : _root_.Go.OpenSpec := { _root_.Go.OpenSpec.ofChange s with cond := some uptoSmall }

/-- 'kindlinglaw05.RtsMakers', WHERE WHAT IT READS IS OF BULK AT MOST 1048576: true; the input reads as it did. -/
def rtsMakersUptoRow : OpenClaim := { program := "ytdhfnfoimbijmaa", sum := "df038d9c0f4ec04bb824d00fb999a2e894db4dbce2059ef64c09b557a3ea0bf4", func := "kindling/kindlinglaw05.RtsMakers", spec := "rtsMakers", unfollowed := true, recurses := true, apart := false, narrowed := true }
def RtsMakersUptoSaid : Prop := rtsMakersUptoRow.holds Try.pinned (OpenSpec.upto rtsMakersSpec)

/-- 'kindlinglaw05.RtsMoves', WHERE WHAT IT READS IS OF BULK AT MOST 1048576: true; the input reads as it did. -/
def rtsMovesUptoRow : OpenClaim := { program := "ytdhfnfoimbijmaa", sum := "df038d9c0f4ec04bb824d00fb999a2e894db4dbce2059ef64c09b557a3ea0bf4", func := "kindling/kindlinglaw05.RtsMoves", spec := "rtsMoves", unfollowed := true, recurses := true, loops := true, apart := false, narrowed := true }
def RtsMovesUptoSaid : Prop := rtsMovesUptoRow.holds Try.pinned (OpenSpec.upto rtsMovesSpec)

/-- 'kindlinglaw05.RtsTexts', WHERE WHAT IT READS IS OF BULK AT MOST 1048576: true; the input reads as it did. -/
def rtsTextsUptoRow : OpenClaim := { program := "ytdhfnfoimbijmaa", sum := "df038d9c0f4ec04bb824d00fb999a2e894db4dbce2059ef64c09b557a3ea0bf4", func := "kindling/kindlinglaw05.RtsTexts", spec := "rtsTexts", unfollowed := true, recurses := true, apart := false, narrowed := true }
def RtsTextsUptoSaid : Prop := rtsTextsUptoRow.holds Try.pinned (OpenSpec.upto rtsTextsSpec)

/-- 'kindlinglaw05.RtsTextBack', WHERE WHAT IT READS IS OF BULK AT MOST 1048576: true; the input reads as it did. -/
def rtsTextBackUptoRow : OpenClaim := { program := "ytdhfnfoimbijmaa", sum := "df038d9c0f4ec04bb824d00fb999a2e894db4dbce2059ef64c09b557a3ea0bf4", func := "kindling/kindlinglaw05.RtsTextBack", spec := "rtsTextBack", unfollowed := true, recurses := true, apart := false, narrowed := true }
def RtsTextBackUptoSaid : Prop := rtsTextBackUptoRow.holds Try.pinned (OpenSpec.upto rtsTextBackSpec)

/-- 'kindlinglaw05.RtsGets', WHERE WHAT IT READS IS OF BULK AT MOST 1048576: true; the input reads as it did. -/
def rtsGetsUptoRow : OpenClaim := { program := "ytdhfnfoimbijmaa", sum := "df038d9c0f4ec04bb824d00fb999a2e894db4dbce2059ef64c09b557a3ea0bf4", func := "kindling/kindlinglaw05.RtsGets", spec := "rtsGets", unfollowed := true, recurses := true, apart := false, narrowed := true }
def RtsGetsUptoSaid : Prop := rtsGetsUptoRow.holds Try.pinned (OpenSpec.upto rtsGetsSpec)

/-- 'kindlinglaw05.RtsSame', WHERE WHAT IT READS IS OF BULK AT MOST 1048576: true; the input reads as it did. -/
def rtsSameUptoRow : OpenClaim := { program := "ytdhfnfoimbijmaa", sum := "df038d9c0f4ec04bb824d00fb999a2e894db4dbce2059ef64c09b557a3ea0bf4", func := "kindling/kindlinglaw05.RtsSame", spec := "rtsSame", unfollowed := true, recurses := true, apart := false, narrowed := true }
def RtsSameUptoSaid : Prop := rtsSameUptoRow.holds Try.pinned (OpenSpec.upto rtsSameSpec)

/-- 'kindlinglaw05.RtsTurns', WHERE WHAT IT READS IS OF BULK AT MOST 1048576: true; the input reads as it did. -/
def rtsTurnsUptoRow : OpenClaim := { program := "ytdhfnfoimbijmaa", sum := "df038d9c0f4ec04bb824d00fb999a2e894db4dbce2059ef64c09b557a3ea0bf4", func := "kindling/kindlinglaw05.RtsTurns", spec := "rtsTurns", unfollowed := true, recurses := true, apart := false, narrowed := true }
def RtsTurnsUptoSaid : Prop := rtsTurnsUptoRow.holds Try.pinned (OpenSpec.upto rtsTurnsSpec)

/-- 'kindlinglaw05.RtsShort', WHERE WHAT IT READS IS OF BULK AT MOST 1048576: true; the input reads as it did. -/
def rtsShortUptoRow : OpenClaim := { program := "ytdhfnfoimbijmaa", sum := "df038d9c0f4ec04bb824d00fb999a2e894db4dbce2059ef64c09b557a3ea0bf4", func := "kindling/kindlinglaw05.RtsShort", spec := "rtsShort", unfollowed := true, recurses := true, loops := true, apart := false, narrowed := true }
def RtsShortUptoSaid : Prop := rtsShortUptoRow.holds Try.pinned (OpenSpec.upto rtsShortSpec)

/-- 'kindlinglaw05.RtsQuotes', WHERE WHAT IT READS IS OF BULK AT MOST 1048576: true; the input reads as it did. -/
def rtsQuotesUptoRow : OpenClaim := { program := "ytdhfnfoimbijmaa", sum := "df038d9c0f4ec04bb824d00fb999a2e894db4dbce2059ef64c09b557a3ea0bf4", func := "kindling/kindlinglaw05.RtsQuotes", spec := "rtsQuotes", unfollowed := true, recurses := true, apart := false, narrowed := true }
def RtsQuotesUptoSaid : Prop := rtsQuotesUptoRow.holds Try.pinned (OpenSpec.upto rtsQuotesSpec)

/-- 'kindlinglaw05.RtsNil', WHERE WHAT IT READS IS OF BULK AT MOST 1048576: true; the input reads as it did. -/
def rtsNilUptoRow : OpenClaim := { program := "ytdhfnfoimbijmaa", sum := "df038d9c0f4ec04bb824d00fb999a2e894db4dbce2059ef64c09b557a3ea0bf4", func := "kindling/kindlinglaw05.RtsNil", spec := "rtsNil", unfollowed := true, recurses := true, apart := false, narrowed := true }
def RtsNilUptoSaid : Prop := rtsNilUptoRow.holds Try.pinned (OpenSpec.upto rtsNilSpec)

end Rows
end Go.Proofs.Ytdhfnfoimbijmaa
