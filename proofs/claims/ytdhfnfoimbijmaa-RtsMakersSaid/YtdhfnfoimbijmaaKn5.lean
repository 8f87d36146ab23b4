/- What must come of the fixed calls of layer 5. -/
import Derived.Test.YtdhfnfoimbijmaaSame
import Derived.Test.YtdhfnfoimbijmaaShow
import Derived.Test.YtdhfnfoimbijmaaQuF
namespace Go.Proofs.Ytdhfnfoimbijmaa.Mem
open Go.RowKit Go.Shelf Go.Proofs.YtdhfnfoimbijmaaW.PrintWords Go.Proofs.YtdhfnfoimbijmaaW.PrintLast Go.Proofs.YtdhfnfoimbijmaaW.PrintMore
open Num (bts word)
set_option linter.unusedSimpArgs false
set_option linter.unusedVariables false
theorem quote_1 : Pa.rts_Quote.f 10 ⟨#[97, 10]⟩ = some ⟨#[34, 97, 92, 110, 34]⟩ := Fq.quote_f ⟨#[97, 10]⟩ (by decide) 10 (by decide)
theorem quote_2 : Pa.rts_Quote.f 10 ⟨#[97, 98, 99]⟩ = some ⟨#[34, 97, 98, 99, 34]⟩ := Fq.quote_f ⟨#[97, 98, 99]⟩ (by decide) 10 (by decide)
theorem results_cell {P : Program} {fn : Func} {p : Tmp} {ty : TypeId} (h : fn.results = #[.cell p ty]) (tmps : Array Value) (w : World) (a : Addr) (v : Value) (hp : tmps.getD p undef = .pointer (some a)) (hv : (loadVar ty a).run P w = .ok v w) :
    (results fn tmps).run P w = .ok v w := by
  have hp' : tmps[p]?.getD undef = .pointer (some a) := by simpa using hp
  simp [results, h, hp', asAddr, hv]
theorem con_nil (nm : ByteArray) (n : Int) (w : World) : Calls Try.prog 40 #[.string nm, .int .i64 n, .slice none 0 0] w fun e w' => e = .returned (.agg #[.int .i64 2, .int .i64 n, .string nm, .slice none 0 0]) ∧ Below w.heap.size w w' := by
  go_enter Try.func40, Try.ntmps40
  go_wp2_with fail
  refine bodyPost_ret (results_cell rfl _ _ ⟨w.heap.size, 0, none⟩ _ rfl ?_) rfl ⟨rfl, (Below.refl _ w).alloc (Nat.le_refl _) _⟩
  have hbt : (w.alloc (.cells #[.int .i64 2, .int .i64 n, .string nm, .slice none 0 0] 26)).heap[w.heap.size]? = some (.cells #[.int .i64 2, .int .i64 n, .string nm, .slice none 0 0] 26 (0, 0)) := blk_new _ _
  have h0 := (blk_cell hbt 0).trans rfl
  have h1 := (blk_cell hbt 1).trans rfl
  have h2 := (blk_cell hbt 2).trans rfl
  have h3 := (blk_cell hbt 3).trans rfl
  have hu := Try.underlying26
  simp [loadVar, go_sem, h0, h1, h2, h3]
set_option maxHeartbeats 4000000 in
set_option maxRecDepth 100000 in
theorem known5 (w : World) : Calls Try.prog 16 #[] w fun e w' => e = .returned (.bool true) ∧ Below w.heap.size w w' := by
  go_enter Try.func16, Try.ntmps16
  go_wp2_with fail
  (with_reducible refine Calls.mono (one_new 64 w (by decide)) ?_)
  rintro e w1 ⟨g, rfl, hB1, M1⟩
  have hP := put_text M1 ⟨#[97, 98, 99]⟩ (by decide) (by decide)
  have hP : Calls Try.prog 27 #[.pointer (some ⟨g, 0, none⟩), .string ⟨#[97, 98, 99]⟩] w1 fun e w' => e = .returned (.tuple #[.int .u64 2, .int .i64 0]) ∧ IsMem (fun k => w.heap.size ≤ k ∨ w1.heap.size ≤ k) w' g ⟨64, 0, [textO ⟨#[97, 98, 99]⟩], [], .map []⟩ ∧ Fr (fun k => w.heap.size ≤ k) w1 w' := hP
  go_wp2_with fail
  (with_reducible refine Calls.mono hP ?_)
  rintro e w2 ⟨rfl, M2, fr2⟩
  have hB2 : Below w.heap.size w w2 := ⟨fr2.low.os.trans hB1.os, fr2.low.tape.trans hB1.tape, fr2.low.output.trans hB1.output, Nat.le_trans hB1.size fr2.low.size, fun k hk => (fr2.same k (Nat.lt_of_lt_of_le hk hB1.size) (by omega)).trans (hB1.block k hk)⟩
  clear hP M1 fr2 hB1
  have hG := get_text M2 0 (by decide) ⟨#[97, 98, 99]⟩ rfl 1 (by decide)
  have hG : Calls Try.prog 34 #[.pointer (some ⟨g, 0, none⟩), .int .u64 2] w2 fun e w' => e = .returned (.tuple #[.string ⟨#[97, 98, 99]⟩, .int .i64 0]) ∧ Below w2.heap.size w2 w' := hG
  go_wp2_with fail
  (with_reducible refine Calls.mono hG ?_)
  rintro e w3 ⟨rfl, hb3⟩
  have M3 := M2.below hb3
  have hB3 := hB2.trans (hb3.mono hB2.size)
  clear hG M2 hB2 hb3
  have hS := same_text M3 0 (by decide) ⟨#[97, 98, 99]⟩ rfl 1 (by decide)
  have hS : Calls Try.prog 21 #[.pointer (some ⟨g, 0, none⟩), .int .u64 2, .int .u64 2, .int .i64 5] w3 fun e w' => e = .returned (.tuple #[.int .i64 1, .int .i64 1, .int .i64 0]) ∧ Below w3.heap.size w3 w' := hS
  go_wp2_with fail
  (with_reducible refine Calls.mono hS ?_)
  rintro e w4 ⟨rfl, hb4⟩
  have M4 := M3.below hb4
  have hB4 := hB3.trans (hb4.mono hB3.size)
  clear hS M3 hB3 hb4
  go_wp2_with fail
  (with_reducible refine Calls.mono (Pa.rts_Quote.calls 10 ⟨#[97, 10]⟩ _ w4 quote_1) ?_)
  rintro e w5 ⟨rfl, hb5⟩
  have M5 := M4.below hb5
  have hB5 := hB4.trans (hb5.mono hB4.size)
  clear M4 hB4 hb5
  go_wp2_with fail
  (with_reducible refine Calls.mono (con_nil _ _ w5) ?_)
  rintro e w6 ⟨rfl, hb6⟩
  have M6 := M5.below hb6
  have hB6 := hB5.trans (hb6.mono hB5.size)
  clear M5 hB5 hb6
  have hW := show_text M6 0 (by decide) ⟨#[97, 98, 99]⟩ rfl 1 (by decide) ⟨#[34, 97, 98, 99, 34]⟩ 10 quote_2 (by decide) ⟨#[115, 116, 114, 105, 110, 103]⟩
  have hW : Calls Try.prog 22 #[.pointer (some ⟨g, 0, none⟩), .int .u64 2, .agg #[.int .i64 2, .int .i64 2, .string ⟨#[115, 116, 114, 105, 110, 103]⟩, .slice none 0 0], .slice none 0 0] w6 fun e w' => e = .returned (.string ⟨#[34, 97, 98, 99, 34]⟩) ∧ Below w6.heap.size w6 w' := hW
  go_wp2_with fail
  (with_reducible refine Calls.mono hW ?_)
  rintro e w7 ⟨rfl, hb7⟩
  have hB7 := hB6.trans (hb7.mono hB6.size)
  clear hW M6 hB6 hb7
  go_wp2_with fail
  go_ret
  exact ⟨rfl, hB7⟩
end Go.Proofs.Ytdhfnfoimbijmaa.Mem
