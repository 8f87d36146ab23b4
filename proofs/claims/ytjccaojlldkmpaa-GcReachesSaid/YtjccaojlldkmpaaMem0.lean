/- What mem.New makes. -/
import Derived.WalkKit
import Derived.WalkLawsBesides
import Derived.Carry
import Derived.Maps.OwnSet
import Derived.Test.YtjccaojlldkmpaaWWords
import Derived.Test.YtjccaojlldkmpaaProg
namespace Go.Proofs.Ytjccaojlldkmpaa.Mem
open Go.RowKit Go.Proofs.YtjccaojlldkmpaaW.PrintWords
attribute [local go_sem] run_makeMap
/-- The cells of a memory. -/
def cellsOf (size half f : Int) (vw vh : Value) (f2 : Int) (ow oh mv : Value) : Array Value := #[.int .i64 size, .int .i64 half, .int .i64 f, vw, vh, .int .i64 f2, ow, oh, mv]
/-- A memory that was just made. -/
def Made (n : Int) (w : World) (e : Ending) (w' : World) : Prop := ∃ g mb : Nat, e = .returned (.tuple #[.pointer (some ⟨g, 0, none⟩), .int .i64 0]) ∧ w.heap.size ≤ g ∧ w.heap.size ≤ mb ∧ g ≠ mb ∧
      w'.heap[g]? = some (.cells (cellsOf n 0 1 (.slice none 0 0) (.slice none 0 0) (n + 1) (.slice none 0 0) (.slice none 0 0) (.map (some mb))) 96 (0, 0)) ∧ w'.heap[mb]? = some (.map #[] 0) ∧ Below w.heap.size w w'
theorem new_in (n : Int) (w : World) (h0 : 64 ≤ n) (h1 : n ≤ 65536) :
    Calls Try.prog 42 #[.int .i64 n] w fun e w' => Made n w e w' := by
  have h0' : ¬ n < 64 := by omega
  have h1' : decide (65536 < n) = false := decide_eq_false (by omega)
  go_enter Try.func42, Try.ntmps42
  go_wp2_with fail
  go_ret2
  have hs : (w.alloc (.map #[] 0)).heap.size = w.heap.size + 1 := by simp
  refine ⟨(w.alloc (.map #[] 0)).heap.size, w.heap.size, by rw [hs]; rfl, by omega, Nat.le_refl _, by omega, blk_new _ _, blk_alloc (blk_new _ _) _, ((Below.refl _ _).alloc (Nat.le_refl _) _).alloc (by omega) _⟩
theorem new_no (n : Int) (w : World) (h : n < 64 ∨ 65536 < n) :
    Calls Try.prog 42 #[.int .i64 n] w fun e w' => e = .returned (.tuple #[.pointer none, .int .i64 1]) ∧ w' = w := by
  by_cases h0 : n < 64
  · go_enter Try.func42, Try.ntmps42
    go_wp2_with fail
    go_ret2
    exact ⟨rfl, rfl⟩
  · have h1 : decide (65536 < n) = true := decide_eq_true (by omega)
    have h0' : 64 ≤ n := by omega
    clear h
    go_enter Try.func42, Try.ntmps42
    go_wp2_with fail
    go_ret2
    exact ⟨rfl, rfl⟩
end Go.Proofs.Ytjccaojlldkmpaa.Mem
