/- What Next and Free answer. -/
import Derived.Test.YtjccaojlldkmpaaMem0
import Derived.Deep.QuietTactic
import Derived.OrdersHeld
namespace Go.Proofs.Ytjccaojlldkmpaa.Mem
open Go.RowKit Go.Proofs.YtjccaojlldkmpaaW.PrintWords
theorem next_any (w : World) (g : Nat) (size half f f2 : Int) (vh ow oh mv : Value) (a : Option Addr) (len cap : Nat) (hl : len ≤ 65536) (hf : 0 ≤ f ∧ f ≤ 200000)
    (hb : w.heap[g]? = some (.cells (cellsOf size half f (.slice a len cap) vh f2 ow oh mv) 96 (0, 0))) :
    Calls Try.prog 60 #[.pointer (some ⟨g, 0, none⟩)] w fun e w' => e = .returned (.int .i64 (f + len)) ∧ Drawn0 w w' := by
  have hc2 : w.cell? ⟨g, 2, none⟩ = some (.int .i64 f) := (blk_cell hb 2).trans rfl
  have hc3 : w.cell? ⟨g, 3, none⟩ = some (.slice a len cap) := (blk_cell hb 3).trans rfl
  have hz2 := blk_frozen hb 2
  have hz3 := blk_frozen hb 3
  go_enter Try.func60, Try.ntmps60
  go_wp2_with fail
  go_quiet (fail)
  go_wp2_with fail
  go_ret
  exact ⟨rfl, ⟨_, rfl⟩⟩
theorem free_any (w : World) (g : Nat) (size half f f2 : Int) (vh ow oh mv : Value) (a : Option Addr) (len cap : Nat) (hl : len ≤ 65536) (hf : 0 ≤ size ∧ size ≤ 65536)
    (hb : w.heap[g]? = some (.cells (cellsOf size half f (.slice a len cap) vh f2 ow oh mv) 96 (0, 0))) :
    Calls Try.prog 32 #[.pointer (some ⟨g, 0, none⟩)] w fun e w' => e = .returned (.int .i64 (size - len)) ∧ Drawn0 w w' := by
  have hc2 : w.cell? ⟨g, 0, none⟩ = some (.int .i64 size) := (blk_cell hb 0).trans rfl
  have hc3 : w.cell? ⟨g, 3, none⟩ = some (.slice a len cap) := (blk_cell hb 3).trans rfl
  have hz2 := blk_frozen hb 0
  have hz3 := blk_frozen hb 3
  go_enter Try.func32, Try.ntmps32
  go_wp2_with fail
  go_quiet (fail)
  go_wp2_with fail
  go_ret
  exact ⟨rfl, ⟨_, rfl⟩⟩
end Go.Proofs.Ytjccaojlldkmpaa.Mem
