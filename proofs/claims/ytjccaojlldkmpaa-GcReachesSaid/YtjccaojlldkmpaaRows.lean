/-
  No cell of these rows narrows 'for every input' (looked for: loops, veiled, ifaces, maps, wideKeys, modest, calm, conditions, laid).
  DERIVED. THE GIVEN ROWS OF THIS SEAT. 11 by the template 'for every input the law returns true; each argument reads behind the call as it read before'; 0 by the template 'total and deterministic' (their statements: YtjccaojlldkmpaaTotals.lean).
  GIVEN WITH THE SEED: the statements are not yours to turn. If you find one false, say at which input.
  Laid BY PROGRAM, IN A SANDBOX (cutbox-rows.mjs): the forced cells as the released guide's own fill.sh prints them over the translation 8491b4b46652ac4b… (all of the seat's roots in one cut). By AI agents, Wed Nov 11 2026. No macro, syntax, notation, axiom, sorry.
-/
import Derived.Test.YtjccaojlldkmpaaChecked
import GoSem.Claim
import GoSem.ClaimJoined
import GoSem.ClaimMapViews
import Derived.JoinedTies
import Derived.KernelRfl
namespace Go.Proofs.Ytjccaojlldkmpaa
/- THE CELL 'sum', in the pinned program and in every row, IS THE sha256 OF THE DUMP (.gsa) THAT YtjccaojlldkmpaaProg.lean LOADS. Nothing in Lean hashes anything: it is a label: what it is worth is what the hold of that sum in a sandbox is worth. -/
noncomputable def Try.pinned : Pinned := { name := "ytjccaojlldkmpaa", sum := "8491b4b46652ac4b19294a52d3eac6bb38d543e8c11a3d2d96a68d92d96639cb", checked := Try.checked }
namespace Rows
def none {H : Type} : Left H := { results := [], args := [] }

/-- 'kindlinglaw04.GcCollects': WHATEVER THE INPUT: true; the input reads as it did. -/
def gcCollectsSpec : ChangeSpec := { name := "gcCollects", fn := fun _ => fun
  | [d1, d2] => { results := [.lit (.bool true)], args := [d1, d2] }
  | _ => none }
def gcCollectsRow : OpenClaim := { program := "ytjccaojlldkmpaa", sum := "8491b4b46652ac4b19294a52d3eac6bb38d543e8c11a3d2d96a68d92d96639cb", func := "kindling/kindlinglaw04.GcCollects", spec := "gcCollects", unfollowed := true, recurses := true, apart := false }
def GcCollectsSaid : Prop := gcCollectsRow.holds Try.pinned (OpenSpec.ofChange gcCollectsSpec)

/-- ITS FALSE NEIGHBOUR: 'it returns false'. Refute it at one input. -/
def gcCollectsWrong : ChangeSpec := { name := "gcCollects", fn := fun _ => fun
  | [d1, d2] => { results := [.lit (.bool false)], args := [d1, d2] }
  | _ => none }
def GcCollectsWrongFalsely : Prop := gcCollectsRow.holds Try.pinned (OpenSpec.ofChange gcCollectsWrong)

/-- 'kindlinglaw04.GcReaches': WHATEVER THE INPUT: true; the input reads as it did. -/
def gcReachesSpec : ChangeSpec := { name := "gcReaches", fn := fun _ => fun
  | [d1, d2, d3] => { results := [.lit (.bool true)], args := [d1, d2, d3] }
  | _ => none }
def gcReachesRow : OpenClaim := { program := "ytjccaojlldkmpaa", sum := "8491b4b46652ac4b19294a52d3eac6bb38d543e8c11a3d2d96a68d92d96639cb", func := "kindling/kindlinglaw04.GcReaches", spec := "gcReaches", unfollowed := true, recurses := true, apart := false }
def GcReachesSaid : Prop := gcReachesRow.holds Try.pinned (OpenSpec.ofChange gcReachesSpec)

/-- ITS FALSE NEIGHBOUR: 'it returns false'. Refute it at one input. -/
def gcReachesWrong : ChangeSpec := { name := "gcReaches", fn := fun _ => fun
  | [d1, d2, d3] => { results := [.lit (.bool false)], args := [d1, d2, d3] }
  | _ => none }
def GcReachesWrongFalsely : Prop := gcReachesRow.holds Try.pinned (OpenSpec.ofChange gcReachesWrong)

/-- 'kindlinglaw04.GcLives': WHATEVER THE INPUT: true; the input reads as it did. -/
def gcLivesSpec : ChangeSpec := { name := "gcLives", fn := fun _ => fun
  | [d1, d2] => { results := [.lit (.bool true)], args := [d1, d2] }
  | _ => none }
def gcLivesRow : OpenClaim := { program := "ytjccaojlldkmpaa", sum := "8491b4b46652ac4b19294a52d3eac6bb38d543e8c11a3d2d96a68d92d96639cb", func := "kindling/kindlinglaw04.GcLives", spec := "gcLives", unfollowed := true, recurses := true, apart := false }
def GcLivesSaid : Prop := gcLivesRow.holds Try.pinned (OpenSpec.ofChange gcLivesSpec)

/-- ITS FALSE NEIGHBOUR: 'it returns false'. Refute it at one input. -/
def gcLivesWrong : ChangeSpec := { name := "gcLives", fn := fun _ => fun
  | [d1, d2] => { results := [.lit (.bool false)], args := [d1, d2] }
  | _ => none }
def GcLivesWrongFalsely : Prop := gcLivesRow.holds Try.pinned (OpenSpec.ofChange gcLivesWrong)

/-- 'kindlinglaw04.GcLeast': WHATEVER THE INPUT: true; the input reads as it did. -/
def gcLeastSpec : ChangeSpec := { name := "gcLeast", fn := fun _ => fun
  | [d1, d2] => { results := [.lit (.bool true)], args := [d1, d2] }
  | _ => none }
def gcLeastRow : OpenClaim := { program := "ytjccaojlldkmpaa", sum := "8491b4b46652ac4b19294a52d3eac6bb38d543e8c11a3d2d96a68d92d96639cb", func := "kindling/kindlinglaw04.GcLeast", spec := "gcLeast", unfollowed := true, recurses := true, apart := false }
def GcLeastSaid : Prop := gcLeastRow.holds Try.pinned (OpenSpec.ofChange gcLeastSpec)

/-- ITS FALSE NEIGHBOUR: 'it returns false'. Refute it at one input. -/
def gcLeastWrong : ChangeSpec := { name := "gcLeast", fn := fun _ => fun
  | [d1, d2] => { results := [.lit (.bool false)], args := [d1, d2] }
  | _ => none }
def GcLeastWrongFalsely : Prop := gcLeastRow.holds Try.pinned (OpenSpec.ofChange gcLeastWrong)

/-- 'kindlinglaw04.GcRefuses': WHATEVER THE INPUT: true; the input reads as it did. -/
def gcRefusesSpec : ChangeSpec := { name := "gcRefuses", fn := fun _ => fun
  | [d1, d2, d3] => { results := [.lit (.bool true)], args := [d1, d2, d3] }
  | _ => none }
def gcRefusesRow : OpenClaim := { program := "ytjccaojlldkmpaa", sum := "8491b4b46652ac4b19294a52d3eac6bb38d543e8c11a3d2d96a68d92d96639cb", func := "kindling/kindlinglaw04.GcRefuses", spec := "gcRefuses", unfollowed := true, recurses := true, apart := false }
def GcRefusesSaid : Prop := gcRefusesRow.holds Try.pinned (OpenSpec.ofChange gcRefusesSpec)

/-- ITS FALSE NEIGHBOUR: 'it returns false'. Refute it at one input. -/
def gcRefusesWrong : ChangeSpec := { name := "gcRefuses", fn := fun _ => fun
  | [d1, d2, d3] => { results := [.lit (.bool false)], args := [d1, d2, d3] }
  | _ => none }
def GcRefusesWrongFalsely : Prop := gcRefusesRow.holds Try.pinned (OpenSpec.ofChange gcRefusesWrong)

/-- 'kindlinglaw04.GcRoom': WHATEVER THE INPUT: true; the input reads as it did. -/
def gcRoomSpec : ChangeSpec := { name := "gcRoom", fn := fun _ => fun
  | [d1, d2] => { results := [.lit (.bool true)], args := [d1, d2] }
  | _ => none }
def gcRoomRow : OpenClaim := { program := "ytjccaojlldkmpaa", sum := "8491b4b46652ac4b19294a52d3eac6bb38d543e8c11a3d2d96a68d92d96639cb", func := "kindling/kindlinglaw04.GcRoom", spec := "gcRoom", unfollowed := true, recurses := true, apart := false }
def GcRoomSaid : Prop := gcRoomRow.holds Try.pinned (OpenSpec.ofChange gcRoomSpec)

/-- ITS FALSE NEIGHBOUR: 'it returns false'. Refute it at one input. -/
def gcRoomWrong : ChangeSpec := { name := "gcRoom", fn := fun _ => fun
  | [d1, d2] => { results := [.lit (.bool false)], args := [d1, d2] }
  | _ => none }
def GcRoomWrongFalsely : Prop := gcRoomRow.holds Try.pinned (OpenSpec.ofChange gcRoomWrong)

/-- 'kindlinglaw04.GcGrows': WHATEVER THE INPUT: true; the input reads as it did. -/
def gcGrowsSpec : ChangeSpec := { name := "gcGrows", fn := fun _ => fun
  | [d1, d2, d3] => { results := [.lit (.bool true)], args := [d1, d2, d3] }
  | _ => none }
def gcGrowsRow : OpenClaim := { program := "ytjccaojlldkmpaa", sum := "8491b4b46652ac4b19294a52d3eac6bb38d543e8c11a3d2d96a68d92d96639cb", func := "kindling/kindlinglaw04.GcGrows", spec := "gcGrows", unfollowed := true, recurses := true, apart := false }
def GcGrowsSaid : Prop := gcGrowsRow.holds Try.pinned (OpenSpec.ofChange gcGrowsSpec)

/-- ITS FALSE NEIGHBOUR: 'it returns false'. Refute it at one input. -/
def gcGrowsWrong : ChangeSpec := { name := "gcGrows", fn := fun _ => fun
  | [d1, d2, d3] => { results := [.lit (.bool false)], args := [d1, d2, d3] }
  | _ => none }
def GcGrowsWrongFalsely : Prop := gcGrowsRow.holds Try.pinned (OpenSpec.ofChange gcGrowsWrong)

/-- 'kindlinglaw04.GcNil': WHATEVER THE INPUT: true; the input reads as it did. -/
def gcNilSpec : ChangeSpec := { name := "gcNil", fn := fun _ => fun
  | [] => { results := [.lit (.bool true)], args := [] }
  | _ => none }
def gcNilRow : OpenClaim := { program := "ytjccaojlldkmpaa", sum := "8491b4b46652ac4b19294a52d3eac6bb38d543e8c11a3d2d96a68d92d96639cb", func := "kindling/kindlinglaw04.GcNil", spec := "gcNil", unfollowed := true, recurses := true, apart := false }
def GcNilSaid : Prop := gcNilRow.holds Try.pinned (OpenSpec.ofChange gcNilSpec)

/-- ITS FALSE NEIGHBOUR: 'it returns false'. Refute it at one input. -/
def gcNilWrong : ChangeSpec := { name := "gcNil", fn := fun _ => fun
  | [] => { results := [.lit (.bool false)], args := [] }
  | _ => none }
def GcNilWrongFalsely : Prop := gcNilRow.holds Try.pinned (OpenSpec.ofChange gcNilWrong)

/-- 'kindlinglaw04.GcKeeps': WHATEVER THE INPUT: true; the input reads as it did. -/
def gcKeepsSpec : ChangeSpec := { name := "gcKeeps", fn := fun _ => fun
  | [d1, d2, d3] => { results := [.lit (.bool true)], args := [d1, d2, d3] }
  | _ => none }
def gcKeepsRow : OpenClaim := { program := "ytjccaojlldkmpaa", sum := "8491b4b46652ac4b19294a52d3eac6bb38d543e8c11a3d2d96a68d92d96639cb", func := "kindling/kindlinglaw04.GcKeeps", spec := "gcKeeps", unfollowed := true, recurses := true, apart := false }
def GcKeepsSaid : Prop := gcKeepsRow.holds Try.pinned (OpenSpec.ofChange gcKeepsSpec)

/-- ITS FALSE NEIGHBOUR: 'it returns false'. Refute it at one input. -/
def gcKeepsWrong : ChangeSpec := { name := "gcKeeps", fn := fun _ => fun
  | [d1, d2, d3] => { results := [.lit (.bool false)], args := [d1, d2, d3] }
  | _ => none }
def GcKeepsWrongFalsely : Prop := gcKeepsRow.holds Try.pinned (OpenSpec.ofChange gcKeepsWrong)

/-- 'kindlinglaw04.GcShares': WHATEVER THE INPUT: true; the input reads as it did. -/
def gcSharesSpec : ChangeSpec := { name := "gcShares", fn := fun _ => fun
  | [d1, d2, d3, d4] => { results := [.lit (.bool true)], args := [d1, d2, d3, d4] }
  | _ => none }
def gcSharesRow : OpenClaim := { program := "ytjccaojlldkmpaa", sum := "8491b4b46652ac4b19294a52d3eac6bb38d543e8c11a3d2d96a68d92d96639cb", func := "kindling/kindlinglaw04.GcShares", spec := "gcShares", unfollowed := true, recurses := true, apart := false }
def GcSharesSaid : Prop := gcSharesRow.holds Try.pinned (OpenSpec.ofChange gcSharesSpec)

/-- ITS FALSE NEIGHBOUR: 'it returns false'. Refute it at one input. -/
def gcSharesWrong : ChangeSpec := { name := "gcShares", fn := fun _ => fun
  | [d1, d2, d3, d4] => { results := [.lit (.bool false)], args := [d1, d2, d3, d4] }
  | _ => none }
def GcSharesWrongFalsely : Prop := gcSharesRow.holds Try.pinned (OpenSpec.ofChange gcSharesWrong)

/-- 'kindlinglaw04.GcTwice': WHATEVER THE INPUT: true; the input reads as it did. -/
def gcTwiceSpec : ChangeSpec := { name := "gcTwice", fn := fun _ => fun
  | [d1, d2] => { results := [.lit (.bool true)], args := [d1, d2] }
  | _ => none }
def gcTwiceRow : OpenClaim := { program := "ytjccaojlldkmpaa", sum := "8491b4b46652ac4b19294a52d3eac6bb38d543e8c11a3d2d96a68d92d96639cb", func := "kindling/kindlinglaw04.GcTwice", spec := "gcTwice", unfollowed := true, recurses := true, apart := false }
def GcTwiceSaid : Prop := gcTwiceRow.holds Try.pinned (OpenSpec.ofChange gcTwiceSpec)

/-- ITS FALSE NEIGHBOUR: 'it returns false'. Refute it at one input. -/
def gcTwiceWrong : ChangeSpec := { name := "gcTwice", fn := fun _ => fun
  | [d1, d2] => { results := [.lit (.bool false)], args := [d1, d2] }
  | _ => none }
def GcTwiceWrongFalsely : Prop := gcTwiceRow.holds Try.pinned (OpenSpec.ofChange gcTwiceWrong)

/- THE SECOND FORM. 'bulk': how many values and letters a reading holds, each counted each time it is reached (what is shared counts as often as it is met; a slice's spare places count too). A statement '..UptoSaid' is the law's where the arguments, and the package variables that the reading takes, are together of bulk at most 1048576: NARROWER than '..Said'. Prove '..Said' where nothing that the law and all that it calls make is longer than what came in: it says more and counts as full. Else prove '..UptoSaid'. A law counts once. -/
mutual
def uptoBulk {H : Type} : DataW H → Nat
  | .lit (.string bytes) => bytes.length + 1
  | .lit _ => 1
  | .nil => 1
  | .ptr d => uptoBulk d + 1
  | .slice elems spare => uptoBulkAll elems + uptoBulkAll spare + 1
  | .agg parts => uptoBulkAll parts + 1
  | .iface _ d => uptoBulk d + 1
  | .map entries => uptoBulkEntries entries + 1
  | .held _ => 1
def uptoBulkAll {H : Type} : List (DataW H) → Nat
  | [] => 0
  | d :: r => uptoBulk d + uptoBulkAll r
def uptoBulkEntries {H : Type} : List (Lit × DataW H) → Nat
  | [] => 0
  | x :: r => uptoBulkEntry x + uptoBulkEntries r
def uptoBulkEntry {H : Type} : Lit × DataW H → Nat
  | (.string bytes, d) => bytes.length + uptoBulk d + 1
  | (_, d) => uptoBulk d + 1
 end
def uptoSmall : (H : Type) → List (DataW H) → Bool := fun _ ds => decide (uptoBulkAll ds ≤ 1048576)
def OpenSpec.upto (s : _root_.Go.ChangeSpec) : _root_.Go.OpenSpec := { _root_.Go.OpenSpec.ofChange s with cond := some uptoSmall }

/-- 'kindlinglaw04.GcCollects', WHERE WHAT IT READS IS OF BULK AT MOST 1048576: true; the input reads as it did. -/
def gcCollectsUptoRow : OpenClaim := { program := "ytjccaojlldkmpaa", sum := "8491b4b46652ac4b19294a52d3eac6bb38d543e8c11a3d2d96a68d92d96639cb", func := "kindling/kindlinglaw04.GcCollects", spec := "gcCollects", unfollowed := true, recurses := true, apart := false, narrowed := true }
def GcCollectsUptoSaid : Prop := gcCollectsUptoRow.holds Try.pinned (OpenSpec.upto gcCollectsSpec)

/-- 'kindlinglaw04.GcReaches', WHERE WHAT IT READS IS OF BULK AT MOST 1048576: true; the input reads as it did. -/
def gcReachesUptoRow : OpenClaim := { program := "ytjccaojlldkmpaa", sum := "8491b4b46652ac4b19294a52d3eac6bb38d543e8c11a3d2d96a68d92d96639cb", func := "kindling/kindlinglaw04.GcReaches", spec := "gcReaches", unfollowed := true, recurses := true, apart := false, narrowed := true }
def GcReachesUptoSaid : Prop := gcReachesUptoRow.holds Try.pinned (OpenSpec.upto gcReachesSpec)

/-- 'kindlinglaw04.GcLives', WHERE WHAT IT READS IS OF BULK AT MOST 1048576: true; the input reads as it did. -/
def gcLivesUptoRow : OpenClaim := { program := "ytjccaojlldkmpaa", sum := "8491b4b46652ac4b19294a52d3eac6bb38d543e8c11a3d2d96a68d92d96639cb", func := "kindling/kindlinglaw04.GcLives", spec := "gcLives", unfollowed := true, recurses := true, apart := false, narrowed := true }
def GcLivesUptoSaid : Prop := gcLivesUptoRow.holds Try.pinned (OpenSpec.upto gcLivesSpec)

/-- 'kindlinglaw04.GcLeast', WHERE WHAT IT READS IS OF BULK AT MOST 1048576: true; the input reads as it did. -/
def gcLeastUptoRow : OpenClaim := { program := "ytjccaojlldkmpaa", sum := "8491b4b46652ac4b19294a52d3eac6bb38d543e8c11a3d2d96a68d92d96639cb", func := "kindling/kindlinglaw04.GcLeast", spec := "gcLeast", unfollowed := true, recurses := true, apart := false, narrowed := true }
def GcLeastUptoSaid : Prop := gcLeastUptoRow.holds Try.pinned (OpenSpec.upto gcLeastSpec)

/-- 'kindlinglaw04.GcRefuses', WHERE WHAT IT READS IS OF BULK AT MOST 1048576: true; the input reads as it did. -/
def gcRefusesUptoRow : OpenClaim := { program := "ytjccaojlldkmpaa", sum := "8491b4b46652ac4b19294a52d3eac6bb38d543e8c11a3d2d96a68d92d96639cb", func := "kindling/kindlinglaw04.GcRefuses", spec := "gcRefuses", unfollowed := true, recurses := true, apart := false, narrowed := true }
def GcRefusesUptoSaid : Prop := gcRefusesUptoRow.holds Try.pinned (OpenSpec.upto gcRefusesSpec)

/-- 'kindlinglaw04.GcRoom', WHERE WHAT IT READS IS OF BULK AT MOST 1048576: true; the input reads as it did. -/
def gcRoomUptoRow : OpenClaim := { program := "ytjccaojlldkmpaa", sum := "8491b4b46652ac4b19294a52d3eac6bb38d543e8c11a3d2d96a68d92d96639cb", func := "kindling/kindlinglaw04.GcRoom", spec := "gcRoom", unfollowed := true, recurses := true, apart := false, narrowed := true }
def GcRoomUptoSaid : Prop := gcRoomUptoRow.holds Try.pinned (OpenSpec.upto gcRoomSpec)

/-- 'kindlinglaw04.GcGrows', WHERE WHAT IT READS IS OF BULK AT MOST 1048576: true; the input reads as it did. -/
def gcGrowsUptoRow : OpenClaim := { program := "ytjccaojlldkmpaa", sum := "8491b4b46652ac4b19294a52d3eac6bb38d543e8c11a3d2d96a68d92d96639cb", func := "kindling/kindlinglaw04.GcGrows", spec := "gcGrows", unfollowed := true, recurses := true, apart := false, narrowed := true }
def GcGrowsUptoSaid : Prop := gcGrowsUptoRow.holds Try.pinned (OpenSpec.upto gcGrowsSpec)

/-- 'kindlinglaw04.GcNil', WHERE WHAT IT READS IS OF BULK AT MOST 1048576: true; the input reads as it did. -/
def gcNilUptoRow : OpenClaim := { program := "ytjccaojlldkmpaa", sum := "8491b4b46652ac4b19294a52d3eac6bb38d543e8c11a3d2d96a68d92d96639cb", func := "kindling/kindlinglaw04.GcNil", spec := "gcNil", unfollowed := true, recurses := true, apart := false, narrowed := true }
def GcNilUptoSaid : Prop := gcNilUptoRow.holds Try.pinned (OpenSpec.upto gcNilSpec)

/-- 'kindlinglaw04.GcKeeps', WHERE WHAT IT READS IS OF BULK AT MOST 1048576: true; the input reads as it did. -/
def gcKeepsUptoRow : OpenClaim := { program := "ytjccaojlldkmpaa", sum := "8491b4b46652ac4b19294a52d3eac6bb38d543e8c11a3d2d96a68d92d96639cb", func := "kindling/kindlinglaw04.GcKeeps", spec := "gcKeeps", unfollowed := true, recurses := true, apart := false, narrowed := true }
def GcKeepsUptoSaid : Prop := gcKeepsUptoRow.holds Try.pinned (OpenSpec.upto gcKeepsSpec)

/-- 'kindlinglaw04.GcShares', WHERE WHAT IT READS IS OF BULK AT MOST 1048576: true; the input reads as it did. -/
def gcSharesUptoRow : OpenClaim := { program := "ytjccaojlldkmpaa", sum := "8491b4b46652ac4b19294a52d3eac6bb38d543e8c11a3d2d96a68d92d96639cb", func := "kindling/kindlinglaw04.GcShares", spec := "gcShares", unfollowed := true, recurses := true, apart := false, narrowed := true }
def GcSharesUptoSaid : Prop := gcSharesUptoRow.holds Try.pinned (OpenSpec.upto gcSharesSpec)

/-- 'kindlinglaw04.GcTwice', WHERE WHAT IT READS IS OF BULK AT MOST 1048576: true; the input reads as it did. -/
def gcTwiceUptoRow : OpenClaim := { program := "ytjccaojlldkmpaa", sum := "8491b4b46652ac4b19294a52d3eac6bb38d543e8c11a3d2d96a68d92d96639cb", func := "kindling/kindlinglaw04.GcTwice", spec := "gcTwice", unfollowed := true, recurses := true, apart := false, narrowed := true }
def GcTwiceUptoSaid : Prop := gcTwiceUptoRow.holds Try.pinned (OpenSpec.upto gcTwiceSpec)

end Rows
end Go.Proofs.Ytjccaojlldkmpaa
