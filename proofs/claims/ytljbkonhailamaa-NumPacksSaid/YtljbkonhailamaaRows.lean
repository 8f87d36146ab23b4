/-
  No cell of these rows narrows 'for every input' (looked for: loops, veiled, ifaces, maps, wideKeys, modest, calm, conditions, laid).
  DERIVED. THE GIVEN ROWS OF THIS SEAT. 11 by the template 'for every input the law returns true; each argument reads behind the call as it read before'; 0 by the template 'total and deterministic' (their statements: YtljbkonhailamaaTotals.lean).
  GIVEN WITH THE SEED: the statements are not yours to turn. If you find one false, say at which input.
  Laid BY PROGRAM, IN A SANDBOX (cutbox-rows.mjs): the forced cells as the released guide's own fill.sh prints them over the translation 31b98fe2ad9cc606… (all of the seat's roots in one cut). By AI agents, Wed Nov 11 2026. No macro, syntax, notation, axiom, sorry.
-/
import Derived.Test.YtljbkonhailamaaChecked
import GoSem.Claim
import GoSem.ClaimJoined
import GoSem.ClaimMapViews
import Derived.JoinedTies
import Derived.KernelRfl
namespace Go.Proofs.Ytljbkonhailamaa
/- THE CELL 'sum', in the pinned program and in every row, IS THE sha256 OF THE DUMP (.gsa) THAT YtljbkonhailamaaProg.lean LOADS. Nothing in Lean hashes anything: it is a label: what it is worth is what the hold of that sum in a sandbox is worth. -/
noncomputable def Try.pinned : Pinned := { name := "ytljbkonhailamaa", sum := "31b98fe2ad9cc606abb02508bc587248e3401d6ad31414cb808bb4f9182ea7ed", checked := Try.checked }
namespace Rows
def none {H : Type} : Left H := { results := [], args := [] }

/-- 'kindlinglaw01.NumWraps': WHATEVER THE INPUT: true; the input reads as it did. -/
def numWrapsSpec : ChangeSpec := { name := "numWraps", fn := fun _ => fun
  | [d1, d2] => { results := [.lit (.bool true)], args := [d1, d2] }
  | _ => none }
def numWrapsRow : OpenClaim := { program := "ytljbkonhailamaa", sum := "31b98fe2ad9cc606abb02508bc587248e3401d6ad31414cb808bb4f9182ea7ed", func := "kindling/kindlinglaw01.NumWraps", spec := "numWraps", unfollowed := true, recurses := true, apart := false }
def NumWrapsSaid : Prop := numWrapsRow.holds Try.pinned (OpenSpec.ofChange numWrapsSpec)

/-- ITS FALSE NEIGHBOUR: 'it returns false'. Refute it at one input. -/
def numWrapsWrong : ChangeSpec := { name := "numWraps", fn := fun _ => fun
  | [d1, d2] => { results := [.lit (.bool false)], args := [d1, d2] }
  | _ => none }
def NumWrapsWrongFalsely : Prop := numWrapsRow.holds Try.pinned (OpenSpec.ofChange numWrapsWrong)

/-- 'kindlinglaw01.NumRing': WHATEVER THE INPUT: true; the input reads as it did. -/
def numRingSpec : ChangeSpec := { name := "numRing", fn := fun _ => fun
  | [d1, d2, d3] => { results := [.lit (.bool true)], args := [d1, d2, d3] }
  | _ => none }
def numRingRow : OpenClaim := { program := "ytljbkonhailamaa", sum := "31b98fe2ad9cc606abb02508bc587248e3401d6ad31414cb808bb4f9182ea7ed", func := "kindling/kindlinglaw01.NumRing", spec := "numRing", unfollowed := true, recurses := true, apart := false }
def NumRingSaid : Prop := numRingRow.holds Try.pinned (OpenSpec.ofChange numRingSpec)

/-- ITS FALSE NEIGHBOUR: 'it returns false'. Refute it at one input. -/
def numRingWrong : ChangeSpec := { name := "numRing", fn := fun _ => fun
  | [d1, d2, d3] => { results := [.lit (.bool false)], args := [d1, d2, d3] }
  | _ => none }
def NumRingWrongFalsely : Prop := numRingRow.holds Try.pinned (OpenSpec.ofChange numRingWrong)

/-- 'kindlinglaw01.NumAdds': WHATEVER THE INPUT: true; the input reads as it did. -/
def numAddsSpec : ChangeSpec := { name := "numAdds", fn := fun _ => fun
  | [d1, d2] => { results := [.lit (.bool true)], args := [d1, d2] }
  | _ => none }
def numAddsRow : OpenClaim := { program := "ytljbkonhailamaa", sum := "31b98fe2ad9cc606abb02508bc587248e3401d6ad31414cb808bb4f9182ea7ed", func := "kindling/kindlinglaw01.NumAdds", spec := "numAdds", unfollowed := true, recurses := true, apart := false }
def NumAddsSaid : Prop := numAddsRow.holds Try.pinned (OpenSpec.ofChange numAddsSpec)

/-- ITS FALSE NEIGHBOUR: 'it returns false'. Refute it at one input. -/
def numAddsWrong : ChangeSpec := { name := "numAdds", fn := fun _ => fun
  | [d1, d2] => { results := [.lit (.bool false)], args := [d1, d2] }
  | _ => none }
def NumAddsWrongFalsely : Prop := numAddsRow.holds Try.pinned (OpenSpec.ofChange numAddsWrong)

/-- 'kindlinglaw01.NumDivides': WHATEVER THE INPUT: true; the input reads as it did. -/
def numDividesSpec : ChangeSpec := { name := "numDivides", fn := fun _ => fun
  | [d1, d2] => { results := [.lit (.bool true)], args := [d1, d2] }
  | _ => none }
def numDividesRow : OpenClaim := { program := "ytljbkonhailamaa", sum := "31b98fe2ad9cc606abb02508bc587248e3401d6ad31414cb808bb4f9182ea7ed", func := "kindling/kindlinglaw01.NumDivides", spec := "numDivides", unfollowed := true, recurses := true, apart := false }
def NumDividesSaid : Prop := numDividesRow.holds Try.pinned (OpenSpec.ofChange numDividesSpec)

/-- ITS FALSE NEIGHBOUR: 'it returns false'. Refute it at one input. -/
def numDividesWrong : ChangeSpec := { name := "numDivides", fn := fun _ => fun
  | [d1, d2] => { results := [.lit (.bool false)], args := [d1, d2] }
  | _ => none }
def NumDividesWrongFalsely : Prop := numDividesRow.holds Try.pinned (OpenSpec.ofChange numDividesWrong)

/-- 'kindlinglaw01.NumMeets': WHATEVER THE INPUT: true; the input reads as it did. -/
def numMeetsSpec : ChangeSpec := { name := "numMeets", fn := fun _ => fun
  | [d1, d2] => { results := [.lit (.bool true)], args := [d1, d2] }
  | _ => none }
def numMeetsRow : OpenClaim := { program := "ytljbkonhailamaa", sum := "31b98fe2ad9cc606abb02508bc587248e3401d6ad31414cb808bb4f9182ea7ed", func := "kindling/kindlinglaw01.NumMeets", spec := "numMeets", unfollowed := true, recurses := true, apart := false }
def NumMeetsSaid : Prop := numMeetsRow.holds Try.pinned (OpenSpec.ofChange numMeetsSpec)

/-- ITS FALSE NEIGHBOUR: 'it returns false'. Refute it at one input. -/
def numMeetsWrong : ChangeSpec := { name := "numMeets", fn := fun _ => fun
  | [d1, d2] => { results := [.lit (.bool false)], args := [d1, d2] }
  | _ => none }
def NumMeetsWrongFalsely : Prop := numMeetsRow.holds Try.pinned (OpenSpec.ofChange numMeetsWrong)

/-- 'kindlinglaw01.NumWords': WHATEVER THE INPUT: true; the input reads as it did. -/
def numWordsSpec : ChangeSpec := { name := "numWords", fn := fun _ => fun
  | [d1, d2, d3] => { results := [.lit (.bool true)], args := [d1, d2, d3] }
  | _ => none }
def numWordsRow : OpenClaim := { program := "ytljbkonhailamaa", sum := "31b98fe2ad9cc606abb02508bc587248e3401d6ad31414cb808bb4f9182ea7ed", func := "kindling/kindlinglaw01.NumWords", spec := "numWords", unfollowed := true, recurses := true, apart := false }
def NumWordsSaid : Prop := numWordsRow.holds Try.pinned (OpenSpec.ofChange numWordsSpec)

/-- ITS FALSE NEIGHBOUR: 'it returns false'. Refute it at one input. -/
def numWordsWrong : ChangeSpec := { name := "numWords", fn := fun _ => fun
  | [d1, d2, d3] => { results := [.lit (.bool false)], args := [d1, d2, d3] }
  | _ => none }
def NumWordsWrongFalsely : Prop := numWordsRow.holds Try.pinned (OpenSpec.ofChange numWordsWrong)

/-- 'kindlinglaw01.NumApart': WHATEVER THE INPUT: true; the input reads as it did. -/
def numApartSpec : ChangeSpec := { name := "numApart", fn := fun _ => fun
  | [d1, d2, d3, d4] => { results := [.lit (.bool true)], args := [d1, d2, d3, d4] }
  | _ => none }
def numApartRow : OpenClaim := { program := "ytljbkonhailamaa", sum := "31b98fe2ad9cc606abb02508bc587248e3401d6ad31414cb808bb4f9182ea7ed", func := "kindling/kindlinglaw01.NumApart", spec := "numApart", unfollowed := true, recurses := true, apart := false }
def NumApartSaid : Prop := numApartRow.holds Try.pinned (OpenSpec.ofChange numApartSpec)

/-- ITS FALSE NEIGHBOUR: 'it returns false'. Refute it at one input. -/
def numApartWrong : ChangeSpec := { name := "numApart", fn := fun _ => fun
  | [d1, d2, d3, d4] => { results := [.lit (.bool false)], args := [d1, d2, d3, d4] }
  | _ => none }
def NumApartWrongFalsely : Prop := numApartRow.holds Try.pinned (OpenSpec.ofChange numApartWrong)

/-- 'kindlinglaw01.NumPacks': WHATEVER THE INPUT: true; the input reads as it did. -/
def numPacksSpec : ChangeSpec := { name := "numPacks", fn := fun _ => fun
  | [d1, d2, d3] => { results := [.lit (.bool true)], args := [d1, d2, d3] }
  | _ => none }
def numPacksRow : OpenClaim := { program := "ytljbkonhailamaa", sum := "31b98fe2ad9cc606abb02508bc587248e3401d6ad31414cb808bb4f9182ea7ed", func := "kindling/kindlinglaw01.NumPacks", spec := "numPacks", unfollowed := true, recurses := true, apart := false }
def NumPacksSaid : Prop := numPacksRow.holds Try.pinned (OpenSpec.ofChange numPacksSpec)

/-- ITS FALSE NEIGHBOUR: 'it returns false'. Refute it at one input. -/
def numPacksWrong : ChangeSpec := { name := "numPacks", fn := fun _ => fun
  | [d1, d2, d3] => { results := [.lit (.bool false)], args := [d1, d2, d3] }
  | _ => none }
def NumPacksWrongFalsely : Prop := numPacksRow.holds Try.pinned (OpenSpec.ofChange numPacksWrong)

/-- 'kindlinglaw01.NumPackBack': WHATEVER THE INPUT: true; the input reads as it did. -/
def numPackBackSpec : ChangeSpec := { name := "numPackBack", fn := fun _ => fun
  | [d1, d2, d3, d4] => { results := [.lit (.bool true)], args := [d1, d2, d3, d4] }
  | _ => none }
def numPackBackRow : OpenClaim := { program := "ytljbkonhailamaa", sum := "31b98fe2ad9cc606abb02508bc587248e3401d6ad31414cb808bb4f9182ea7ed", func := "kindling/kindlinglaw01.NumPackBack", spec := "numPackBack", unfollowed := true, recurses := true, apart := false }
def NumPackBackSaid : Prop := numPackBackRow.holds Try.pinned (OpenSpec.ofChange numPackBackSpec)

/-- ITS FALSE NEIGHBOUR: 'it returns false'. Refute it at one input. -/
def numPackBackWrong : ChangeSpec := { name := "numPackBack", fn := fun _ => fun
  | [d1, d2, d3, d4] => { results := [.lit (.bool false)], args := [d1, d2, d3, d4] }
  | _ => none }
def NumPackBackWrongFalsely : Prop := numPackBackRow.holds Try.pinned (OpenSpec.ofChange numPackBackWrong)

/-- 'kindlinglaw01.NumTexts': WHATEVER THE INPUT: true; the input reads as it did. -/
def numTextsSpec : ChangeSpec := { name := "numTexts", fn := fun _ => fun
  | [d1, d2] => { results := [.lit (.bool true)], args := [d1, d2] }
  | _ => none }
def numTextsRow : OpenClaim := { program := "ytljbkonhailamaa", sum := "31b98fe2ad9cc606abb02508bc587248e3401d6ad31414cb808bb4f9182ea7ed", func := "kindling/kindlinglaw01.NumTexts", spec := "numTexts", unfollowed := true, recurses := true, apart := false }
def NumTextsSaid : Prop := numTextsRow.holds Try.pinned (OpenSpec.ofChange numTextsSpec)

/-- ITS FALSE NEIGHBOUR: 'it returns false'. Refute it at one input. -/
def numTextsWrong : ChangeSpec := { name := "numTexts", fn := fun _ => fun
  | [d1, d2] => { results := [.lit (.bool false)], args := [d1, d2] }
  | _ => none }
def NumTextsWrongFalsely : Prop := numTextsRow.holds Try.pinned (OpenSpec.ofChange numTextsWrong)

/-- 'kindlinglaw01.NumBack': WHATEVER THE INPUT: true; the input reads as it did. -/
def numBackSpec : ChangeSpec := { name := "numBack", fn := fun _ => fun
  | [d1, d2] => { results := [.lit (.bool true)], args := [d1, d2] }
  | _ => none }
def numBackRow : OpenClaim := { program := "ytljbkonhailamaa", sum := "31b98fe2ad9cc606abb02508bc587248e3401d6ad31414cb808bb4f9182ea7ed", func := "kindling/kindlinglaw01.NumBack", spec := "numBack", unfollowed := true, recurses := true, apart := false }
def NumBackSaid : Prop := numBackRow.holds Try.pinned (OpenSpec.ofChange numBackSpec)

/-- ITS FALSE NEIGHBOUR: 'it returns false'. Refute it at one input. -/
def numBackWrong : ChangeSpec := { name := "numBack", fn := fun _ => fun
  | [d1, d2] => { results := [.lit (.bool false)], args := [d1, d2] }
  | _ => none }
def NumBackWrongFalsely : Prop := numBackRow.holds Try.pinned (OpenSpec.ofChange numBackWrong)

/- THE SECOND FORM. 'bulk': how many values and letters a reading holds, each counted each time it is reached (what is shared counts as often as it is met; a slice's spare places count too). A statement '..UptoSaid' is the law's where the arguments, and the package variables that the reading takes, are together of bulk at most 1048576: NARROWER than '..Said'. Prove '..Said' where nothing that the law and all that it calls make is longer than what came in: it says more and counts as full. Else prove '..UptoSaid'. A law counts once. -/
mutual
def uptoBulk {H : Type} : DataW H → Nat
  | .lit (.string bytes) => bytes.length + 1
  | .lit _ => 1
  | .nil => 1
  | .ptr d => uptoBulk d + 1
  | .slice elems spare => uptoBulkAll elems + uptoBulkAll spare + 1
  | .agg parts => uptoBulkAll parts + 1
  | .iface _ d => uptoBulk d + 1
  | .map entries => uptoBulkEntries entries + 1
  | .held _ => 1
def uptoBulkAll {H : Type} : List (DataW H) → Nat
  | [] => 0
  | d :: r => uptoBulk d + uptoBulkAll r
def uptoBulkEntries {H : Type} : List (Lit × DataW H) → Nat
  | [] => 0
  | x :: r => uptoBulkEntry x + uptoBulkEntries r
def uptoBulkEntry {H : Type} : Lit × DataW H → Nat
  | (.string bytes, d) => bytes.length + uptoBulk d + 1
  | (_, d) => uptoBulk d + 1
 end
def uptoSmall : (H : Type) → List (DataW H) → Bool := fun _ ds => decide (uptoBulkAll ds ≤ 1048576)
def OpenSpec.upto (s : _root_.Go.ChangeSpec) : _root_.Go.OpenSpec := { _root_.Go.OpenSpec.ofChange s with cond := some uptoSmall }

/-- 'kindlinglaw01.NumWraps', WHERE WHAT IT READS IS OF BULK AT MOST 1048576: true; the input reads as it did. -/
def numWrapsUptoRow : OpenClaim := { program := "ytljbkonhailamaa", sum := "31b98fe2ad9cc606abb02508bc587248e3401d6ad31414cb808bb4f9182ea7ed", func := "kindling/kindlinglaw01.NumWraps", spec := "numWraps", unfollowed := true, recurses := true, apart := false, narrowed := true }
def NumWrapsUptoSaid : Prop := numWrapsUptoRow.holds Try.pinned (OpenSpec.upto numWrapsSpec)

/-- 'kindlinglaw01.NumRing', WHERE WHAT IT READS IS OF BULK AT MOST 1048576: true; the input reads as it did. -/
def numRingUptoRow : OpenClaim := { program := "ytljbkonhailamaa", sum := "31b98fe2ad9cc606abb02508bc587248e3401d6ad31414cb808bb4f9182ea7ed", func := "kindling/kindlinglaw01.NumRing", spec := "numRing", unfollowed := true, recurses := true, apart := false, narrowed := true }
def NumRingUptoSaid : Prop := numRingUptoRow.holds Try.pinned (OpenSpec.upto numRingSpec)

/-- 'kindlinglaw01.NumAdds', WHERE WHAT IT READS IS OF BULK AT MOST 1048576: true; the input reads as it did. -/
def numAddsUptoRow : OpenClaim := { program := "ytljbkonhailamaa", sum := "31b98fe2ad9cc606abb02508bc587248e3401d6ad31414cb808bb4f9182ea7ed", func := "kindling/kindlinglaw01.NumAdds", spec := "numAdds", unfollowed := true, recurses := true, apart := false, narrowed := true }
def NumAddsUptoSaid : Prop := numAddsUptoRow.holds Try.pinned (OpenSpec.upto numAddsSpec)

/-- 'kindlinglaw01.NumDivides', WHERE WHAT IT READS IS OF BULK AT MOST 1048576: true; the input reads as it did. -/
def numDividesUptoRow : OpenClaim := { program := "ytljbkonhailamaa", sum := "31b98fe2ad9cc606abb02508bc587248e3401d6ad31414cb808bb4f9182ea7ed", func := "kindling/kindlinglaw01.NumDivides", spec := "numDivides", unfollowed := true, recurses := true, apart := false, narrowed := true }
def NumDividesUptoSaid : Prop := numDividesUptoRow.holds Try.pinned (OpenSpec.upto numDividesSpec)

/-- 'kindlinglaw01.NumMeets', WHERE WHAT IT READS IS OF BULK AT MOST 1048576: true; the input reads as it did. -/
def numMeetsUptoRow : OpenClaim := { program := "ytljbkonhailamaa", sum := "31b98fe2ad9cc606abb02508bc587248e3401d6ad31414cb808bb4f9182ea7ed", func := "kindling/kindlinglaw01.NumMeets", spec := "numMeets", unfollowed := true, recurses := true, apart := false, narrowed := true }
def NumMeetsUptoSaid : Prop := numMeetsUptoRow.holds Try.pinned (OpenSpec.upto numMeetsSpec)

/-- 'kindlinglaw01.NumWords', WHERE WHAT IT READS IS OF BULK AT MOST 1048576: true; the input reads as it did. -/
def numWordsUptoRow : OpenClaim := { program := "ytljbkonhailamaa", sum := "31b98fe2ad9cc606abb02508bc587248e3401d6ad31414cb808bb4f9182ea7ed", func := "kindling/kindlinglaw01.NumWords", spec := "numWords", unfollowed := true, recurses := true, apart := false, narrowed := true }
def NumWordsUptoSaid : Prop := numWordsUptoRow.holds Try.pinned (OpenSpec.upto numWordsSpec)

/-- 'kindlinglaw01.NumApart', WHERE WHAT IT READS IS OF BULK AT MOST 1048576: true; the input reads as it did. -/
def numApartUptoRow : OpenClaim := { program := "ytljbkonhailamaa", sum := "31b98fe2ad9cc606abb02508bc587248e3401d6ad31414cb808bb4f9182ea7ed", func := "kindling/kindlinglaw01.NumApart", spec := "numApart", unfollowed := true, recurses := true, apart := false, narrowed := true }
def NumApartUptoSaid : Prop := numApartUptoRow.holds Try.pinned (OpenSpec.upto numApartSpec)

/-- 'kindlinglaw01.NumPacks', WHERE WHAT IT READS IS OF BULK AT MOST 1048576: true; the input reads as it did. -/
def numPacksUptoRow : OpenClaim := { program := "ytljbkonhailamaa", sum := "31b98fe2ad9cc606abb02508bc587248e3401d6ad31414cb808bb4f9182ea7ed", func := "kindling/kindlinglaw01.NumPacks", spec := "numPacks", unfollowed := true, recurses := true, apart := false, narrowed := true }
def NumPacksUptoSaid : Prop := numPacksUptoRow.holds Try.pinned (OpenSpec.upto numPacksSpec)

/-- 'kindlinglaw01.NumPackBack', WHERE WHAT IT READS IS OF BULK AT MOST 1048576: true; the input reads as it did. -/
def numPackBackUptoRow : OpenClaim := { program := "ytljbkonhailamaa", sum := "31b98fe2ad9cc606abb02508bc587248e3401d6ad31414cb808bb4f9182ea7ed", func := "kindling/kindlinglaw01.NumPackBack", spec := "numPackBack", unfollowed := true, recurses := true, apart := false, narrowed := true }
def NumPackBackUptoSaid : Prop := numPackBackUptoRow.holds Try.pinned (OpenSpec.upto numPackBackSpec)

/-- 'kindlinglaw01.NumTexts', WHERE WHAT IT READS IS OF BULK AT MOST 1048576: true; the input reads as it did. -/
def numTextsUptoRow : OpenClaim := { program := "ytljbkonhailamaa", sum := "31b98fe2ad9cc606abb02508bc587248e3401d6ad31414cb808bb4f9182ea7ed", func := "kindling/kindlinglaw01.NumTexts", spec := "numTexts", unfollowed := true, recurses := true, apart := false, narrowed := true }
def NumTextsUptoSaid : Prop := numTextsUptoRow.holds Try.pinned (OpenSpec.upto numTextsSpec)

/-- 'kindlinglaw01.NumBack', WHERE WHAT IT READS IS OF BULK AT MOST 1048576: true; the input reads as it did. -/
def numBackUptoRow : OpenClaim := { program := "ytljbkonhailamaa", sum := "31b98fe2ad9cc606abb02508bc587248e3401d6ad31414cb808bb4f9182ea7ed", func := "kindling/kindlinglaw01.NumBack", spec := "numBack", unfollowed := true, recurses := true, apart := false, narrowed := true }
def NumBackUptoSaid : Prop := numBackUptoRow.holds Try.pinned (OpenSpec.upto numBackSpec)

end Rows
end Go.Proofs.Ytljbkonhailamaa
