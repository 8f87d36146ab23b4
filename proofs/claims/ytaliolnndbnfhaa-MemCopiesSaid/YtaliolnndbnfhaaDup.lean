/- A memory with two rows beside it, and a copy of it that goes its own way. -/
import Derived.Test.YtaliolnndbnfhaaCopy
import Derived.Test.YtaliolnndbnfhaaTwice
namespace Go.Proofs.Ytaliolnndbnfhaa.Mem
open Go.RowKit Go.Proofs.YtaliolnndbnfhaaW.PrintWords Go.Proofs.YtaliolnndbnfhaaW.PrintLast Go.Proofs.YtaliolnndbnfhaaW.PrintMore
open Hf (rightB hdr headOf partsOf w64_of)
set_option linter.unusedSimpArgs false
set_option linter.unusedVariables false
variable {S T : Nat → Prop} {w w' w0 : World} {g g2 mb n : Nat} {st st2 : St} {va vs vw vh ow oh : Value} {ads ss : List Int}
structure DupS (S T : Nat → Prop) (w0 w : World) (g : Nat) (st : St) (g2 : Nat) (st2 : St) (va vs : Value) (ads ss : List Int) : Prop where
  one : FilS S w0 w g st va vs ads ss
  two : IsMem T w g2 st2
  low : ∀ k, T k → w0.heap.size ≤ k ∧ k < w.heap.size
  ap : ∀ k, T k → ¬ S k
  ta : ∀ k, va.ownBlock = some k → ¬ T k
  ts : ∀ k, vs.ownBlock = some k → ¬ T k
/-- A filled memory and a copy beside it. -/
def Dup (w0 w : World) (g : Nat) (st : St) (g2 : Nat) (st2 : St) (va vs : Value) (ads ss : List Int) : Prop := ∃ S T, DupS S T w0 w g st g2 st2 va vs ads ss
theorem Dup.fil (D : Dup w0 w g st g2 st2 va vs ads ss) : Fil w0 w g st va vs ads ss := by
  obtain ⟨S, T, D⟩ := D
  exact ⟨S, D.one⟩
theorem Dup.two (D : Dup w0 w g st g2 st2 va vs ads ss) : ∃ T, IsMem T w g2 st2 := by
  obtain ⟨S, T, D⟩ := D
  exact ⟨T, D.two⟩
/-- A filled memory stays where a call turns nothing of its own. -/
theorem FilS.keep (F : FilS S w0 w g st va vs ads ss) {T : Nat → Prop} (fr : Fr T w w') (h1 : ∀ k, S k → ¬ T k) (h2 : ∀ k, va.ownBlock = some k → ¬ T k) (h3 : ∀ k, vs.ownBlock = some k → ¬ T k) (h4 : ∀ k, T k → w0.heap.size ≤ k) : FilS S w0 w' g st va vs ads ss where
  mem := F.mem.keep fr h1
  low := fun k hk => ⟨(F.low k hk).1, Nat.lt_of_lt_of_le (F.low k hk).2 fr.low.size⟩
  ra := keepH F.ra fr h2
  rs := keepH F.rs fr h3
  na := F.na
  ns := F.ns
  nn := F.nn
  bel := F.bel.trans ⟨fr.low.os, fr.low.tape, fr.low.output, fr.low.size, fun k hk => fr.same k (Nat.lt_of_lt_of_le hk F.bel.size) (fun h => by have := h4 k h; omega)⟩
theorem FilS.aa (F : FilS S w0 w g st va vs ads ss) (k : Nat) (hk : va.ownBlock = some k) : k < w.heap.size := Kd.R_lt F.ra k hk
theorem FilS.as (F : FilS S w0 w g st va vs ads ss) (k : Nat) (hk : vs.ownBlock = some k) : k < w.heap.size := Kd.R_lt F.rs k hk
/-- Copy, of a filled memory. -/
theorem Fil.copy (F : Fil w0 w g st va vs ads ss) : Calls Try.prog 31 #[.pointer (some ⟨g, 0, none⟩)] w fun e w' => ∃ g2, e = .returned (.pointer (some ⟨g2, 0, none⟩)) ∧ Dup w0 w' g st g2 st va vs ads ss := by
  obtain ⟨S, F⟩ := F
  refine (F.mem.copy (fun k hk => (F.low k hk).2)).mono ?_
  rintro e w' ⟨g2, rfl, M, hB⟩
  have fr : Fr (fun _ => False) w w' := Fr.of_below hB
  have M2 := M.bound
  refine ⟨g2, rfl, S, _, F.keep fr (fun _ _ h => h) (fun _ _ h => h) (fun _ _ h => h) (fun _ h => h.elim), M2, fun k hk => ⟨Nat.le_trans F.bel.size hk.1, hk.2⟩, fun k hk hs => ?_, fun k hk ht => ?_, fun k hk ht => ?_⟩
  · have := (F.low k hs).2
    have := hk.1
    omega
  · have := F.aa k hk
    have := ht.1
    omega
  · have := F.as k hk
    have := ht.1
    omega
/-- A call that turns the copy alone. -/
theorem DupS.turn2 {st2' : St} (D : DupS S T w0 w g st g2 st2 va vs ads ss) (M : IsMem (fun k => T k ∨ w.heap.size ≤ k) w' g2 st2') (fr : Fr T w w') : Dup w0 w' g st g2 st2' va vs ads ss := by
  refine ⟨S, _, D.one.keep fr (fun k hs ht => D.ap k ht hs) D.ta D.ts (fun k hk => (D.low k hk).1), M.bound, fun k hk => ⟨?_, hk.2⟩, fun k hk hs => ?_, fun k hk ht => ?_, fun k hk ht => ?_⟩
  · rcases hk.1 with h | h
    · exact (D.low k h).1
    · exact Nat.le_trans D.one.bel.size h
  · rcases hk.1 with h | h
    · exact D.ap k h hs
    · have := (D.one.low k hs).2; omega
  · rcases ht.1 with h | h
    · exact D.ta k hk h
    · have := D.one.aa k hk; omega
  · rcases ht.1 with h | h
    · exact D.ts k hk h
    · have := D.one.as k hk; omega
/-- A call that turns the first alone. -/
theorem DupS.turn1 {st' : St} (D : DupS S T w0 w g st g2 st2 va vs ads ss) (M : IsMem (fun k => S k ∨ w.heap.size ≤ k) w' g st') (fr : Fr S w w') : Dup w0 w' g st' g2 st2 va vs ads ss := by
  have F := D.one
  refine ⟨_, T, ⟨M.bound, fun k hk => ⟨?_, hk.2⟩, keepH F.ra fr (fun k hk => (F.na k hk).1), keepH F.rs fr (fun k hk => (F.ns k hk).1), fun k hk => ⟨?_, (F.na k hk).2⟩, fun k hk => ⟨?_, (F.ns k hk).2⟩, F.nn, ?_⟩, D.two.keep fr D.ap, fun k hk => ⟨(D.low k hk).1, Nat.lt_of_lt_of_le (D.low k hk).2 fr.low.size⟩, fun k hk => ?_, D.ta, D.ts⟩
  · rcases hk.1 with h | h
    · exact (F.low k h).1
    · exact Nat.le_trans F.bel.size h
  · rintro ⟨h | h, -⟩
    · exact (F.na k hk).1 h
    · have := F.aa k hk; omega
  · rintro ⟨h | h, -⟩
    · exact (F.ns k hk).1 h
    · have := F.as k hk; omega
  · exact F.bel.trans ⟨fr.low.os, fr.low.tape, fr.low.output, fr.low.size, fun k hk => fr.same k (Nat.lt_of_lt_of_le hk F.bel.size) (fun h => by have := (F.low k h).1; omega)⟩
  · rintro ⟨h | h, -⟩
    · exact D.ap k hk h
    · have := (D.low k hk).2; omega
theorem Dup.drawn (D : Dup w0 w g st g2 st2 va vs ads ss) (hd : Drawn0 w w') : Dup w0 w' g st g2 st2 va vs ads ss := by
  obtain ⟨S, T, D⟩ := D
  obtain ⟨vw, vh, ow, oh, mb, n, L⟩ := D.two.drawn hd
  exact D.turn2 ⟨vw, vh, ow, oh, mb, n, L.more (fun k hk => .inl hk)⟩ (Fr.of_drawn hd)
theorem Dup.store2 (D : Dup w0 w g st g2 st2 va vs ads ss) (i j : Nat) (v : Int) (hi : i < st2.os.length) (hj : j < st2.os[i].fs.length) (hv : 0 ≤ v ∧ v < 18446744073709551616) :
    Calls Try.prog 25 #[.pointer (some ⟨g2, 0, none⟩), .int .i64 (st2.f + (pos st2.os i : Int)), .int .i64 j, .int .u64 v] w fun e w' => e = .returned (.int .i64 0) ∧ Dup w0 w' g st g2 { st2 with os := putO st2.os i j v } va vs ads ss := by
  obtain ⟨S, T, D⟩ := D
  refine (D.two.store i j v hi hj hv).mono ?_
  rintro e w' ⟨he, h1, h2⟩
  exact ⟨he, D.turn2 h1 h2⟩
theorem Dup.flip1 (D : Dup w0 w g st g2 st2 va vs ads ss) : Calls Try.prog 28 #[.pointer (some ⟨g, 0, none⟩)] w fun e w' => e = .returned (.int .i64 0) ∧ Dup w0 w' g st.flip g2 st2 va vs ads ss := by
  obtain ⟨S, T, D⟩ := D
  refine D.one.mem.flip.mono ?_
  rintro e w' ⟨he, h1, h2⟩
  exact ⟨he, D.turn1 h1 h2⟩
/-- A new object in the copy, or no room: the first stays as it was. -/
theorem Dup.alloc2 (D : Dup w0 w g st g2 st2 va vs ads ss) (k : Int) (n q : Nat) (hr : rightB k n q = true) :
    Calls Try.prog 21 #[.pointer (some ⟨g2, 0, none⟩), .int .i64 k, .int .i64 n, .int .i64 q] w fun e w' => (∃ x y, e = .returned (.tuple #[.int .i64 x, .int .i64 y])) ∧ Fil w0 w' g st va vs ads ss := by
  by_cases hfree : ((flat st2.os).length : Int) + n + 1 ≤ st2.size
  · obtain ⟨S, T, D⟩ := D
    refine (D.two.alloc k n q hr hfree).mono ?_
    rintro e w' ⟨he, h1, h2⟩
    exact ⟨⟨_, _, he⟩, (D.turn2 h1 h2).fil⟩
  · obtain ⟨T, M⟩ := D.two
    refine (M.alloc_full k n q hr (by omega)).mono ?_
    rintro e w' ⟨he, hd⟩
    exact ⟨⟨_, _, he⟩, D.fil.drawn hd⟩
end Go.Proofs.Ytaliolnndbnfhaa.Mem
