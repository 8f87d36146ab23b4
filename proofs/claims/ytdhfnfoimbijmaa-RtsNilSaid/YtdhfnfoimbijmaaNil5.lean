/- In a memory that is not there nothing is put, got, held against another or shown: the walk of the law RtsNil. -/
import Derived.Test.YtdhfnfoimbijmaaKn5
namespace Go.Proofs.Ytdhfnfoimbijmaa.Mem
open Go.RowKit Go.Shelf Go.Proofs.YtdhfnfoimbijmaaW.PrintWords Go.Proofs.YtdhfnfoimbijmaaW.PrintLast Go.Proofs.YtdhfnfoimbijmaaW.PrintMore
set_option linter.unusedSimpArgs false
set_option linter.unusedVariables false
theorem put_nil (s : ByteArray) (w : World) : Calls Try.prog 27 #[.pointer none, .string s] w fun e w' => e = .returned (.tuple #[.int .u64 0, .int .i64 2]) ∧ Below w.heap.size w w' := by
  have bm := Boxed.new w 34 (.pointer none)
  have hcm := bm.cell
  go_enter Try.func27, Try.ntmps27
  go_wp2_with fail
  go_ret2
  exact ⟨rfl, (Below.refl _ w).alloc (Nat.le_refl _) _⟩
set_option maxRecDepth 100000 in
set_option maxHeartbeats 4000000 in
theorem get_nil (x : Int) (w : World) : Calls Try.prog 34 #[.pointer none, .int .u64 x] w fun e w' => e = .returned (.tuple #[.string ⟨#[]⟩, .int .i64 2]) ∧ w' = w := by
  go_enter Try.func34, Try.ntmps34
  go_wp2_with fail
  go_ret2
  exact ⟨rfl, rfl⟩
set_option maxRecDepth 100000 in
set_option maxHeartbeats 4000000 in
theorem same_nil (x y n : Int) (w : World) : Calls Try.prog 21 #[.pointer none, .int .u64 x, .int .u64 y, .int .i64 n] w fun e w' => e = .returned (.tuple #[.int .i64 0, .int .i64 0, .int .i64 2]) ∧ w' = w := by
  go_enter Try.func21, Try.ntmps21
  go_wp2_with fail
  go_step3
  go_wp2_with fail
  rw [Exit.noGoto_ret]
  go_ret3
  exact ⟨rfl, rfl⟩
theorem show_nil (x k n : Int) (nm : ByteArray) (w : World) : Calls Try.prog 22 #[.pointer none, .int .u64 x, .agg #[.int .i64 k, .int .i64 n, .string nm, .slice none 0 0], .slice none 0 0] w fun e w' => e = .returned (.string ⟨#[63]⟩) ∧ Below w.heap.size w w' := by
  go_enter Try.func22, Try.ntmps22
  go_wp2_with fail
  go_ret
  exact ⟨rfl, (Below.refl _ w).alloc (Nat.le_refl _) _⟩
set_option maxHeartbeats 4000000 in
set_option maxRecDepth 100000 in
theorem nil_walk (w : World) : Calls Try.prog 12 #[] w fun e w' => e = .returned (.bool true) ∧ Below w.heap.size w w' := by
  have hB0 := Below.refl w.heap.size w
  go_enter Try.func12, Try.ntmps12
  go_wp2_with fail
  (with_reducible refine Calls.mono (put_nil _ _) ?_)
  rintro e w1 ⟨rfl, hb1⟩
  have hB1 := hB0.trans (hb1.mono hB0.size)
  clear hB0 hb1
  go_wp2_with fail
  (with_reducible refine Calls.mono (get_nil _ _) ?_)
  rintro e w2 ⟨rfl, rfl⟩
  go_wp2_with fail
  (with_reducible refine Calls.mono (same_nil _ _ _ _) ?_)
  rintro e w3 ⟨rfl, rfl⟩
  go_wp2_with fail
  (with_reducible refine Calls.mono (con_nil _ _ _) ?_)
  rintro e w4 ⟨rfl, hb4⟩
  have hB4 := hB1.trans (hb4.mono hB1.size)
  clear hB1 hb4
  go_wp2_with fail
  (with_reducible refine Calls.mono (show_nil _ _ _ _ _) ?_)
  rintro e w5 ⟨rfl, hb5⟩
  have hB5 := hB4.trans (hb5.mono hB4.size)
  clear hB4 hb5
  go_wp2_with fail
  (with_reducible refine Calls.mono (known5 _) ?_)
  rintro e w6 ⟨rfl, hb6⟩
  have hB6 := hB5.trans (hb6.mono hB5.size)
  go_wp2_with fail
  go_ret
  exact ⟨rfl, hB6⟩
end Go.Proofs.Ytdhfnfoimbijmaa.Mem
