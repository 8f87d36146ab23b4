/- Of a memory that is not there nothing is told: the walk of the law MemNil. -/
import Derived.Test.YtaliolnndbnfhaaTwice
import Derived.RangeFuncNested
import Derived.RangeFuncBound
import Derived.RangeFuncCalls
import Derived.RangeFuncLeaves
import Derived.RangeFuncBox
import Derived.Shelf.Abstract
import Derived.Shelf.RegionOpen
import Derived.OwnWalkIn
import Derived.TacticsInMore
import Derived.LoopNIn
import Derived.LoopIn
namespace Go.Proofs.Ytaliolnndbnfhaa.Mem
open Go.RowKit Go.Shelf Go.Proofs.YtaliolnndbnfhaaW.PrintWords Go.Proofs.YtaliolnndbnfhaaW.PrintLast Go.Proofs.YtaliolnndbnfhaaW.PrintMore
set_option linter.unusedSimpArgs false
set_option linter.unusedVariables false
theorem look_nil (w : World) (a : Int) : Calls Try.prog 33 #[.pointer none, .int .i64 a] w fun e w' => e = .returned (.tuple #[.int .i64 0, .int .i64 0, .int .i64 0, .int .i64 2]) ∧ w' = w := by
  go_enter Try.func33, Try.ntmps33
  go_wp2_with fail
  refine bodyPost_ret (results_list (rs := [.tmp 4, .tmp 5, .tmp 6, .tmp 7]) rfl (by simp) (.tmp (.tmp (.tmp (.tmp .nil))))) rfl ?_
  exact ⟨rfl, rfl⟩
theorem allocN (w : World) (k n q : Int) : Calls Try.prog 21 #[.pointer none, .int .i64 k, .int .i64 n, .int .i64 q] w fun e w' => e = .returned (.tuple #[.int .i64 0, .int .i64 2]) ∧ w' = w := by
  go_enter Try.func21, Try.ntmps21
  go_wp2_with fail
  go_ret2
  exact ⟨rfl, rfl⟩
theorem load_nil (w : World) (a i : Int) : Calls Try.prog 26 #[.pointer none, .int .i64 a, .int .i64 i] w fun e w' => e = .returned (.tuple #[.int .u64 0, .int .i64 2]) ∧ w' = w := by
  go_enter Try.func26, Try.ntmps26
  go_wp2_with fail
  go_ret2
  exact ⟨rfl, rfl⟩
theorem store_nil (w : World) (a i v : Int) : Calls Try.prog 25 #[.pointer none, .int .i64 a, .int .i64 i, .int .u64 v] w fun e w' => e = .returned (.int .i64 2) ∧ w' = w := by
  go_enter Try.func25, Try.ntmps25
  go_wp2_with fail
  go_ret
  exact ⟨rfl, rfl⟩
theorem move_nil (w : World) (a : Int) : Calls Try.prog 32 #[.pointer none, .int .i64 a] w fun e w' => e = .returned (.tuple #[.int .i64 0, .int .i64 2]) ∧ w' = w := by
  go_enter Try.func32, Try.ntmps32
  go_wp2_with fail
  go_ret2
  exact ⟨rfl, rfl⟩
theorem flip_nil (w : World) : Calls Try.prog 28 #[.pointer none] w fun e w' => e = .returned (.int .i64 2) ∧ w' = w := by
  go_enter Try.func28, Try.ntmps28
  go_wp2_with fail
  go_ret
  exact ⟨rfl, rfl⟩
theorem words_nil (w : World) : Calls Try.prog 29 #[.pointer none] w fun e w' => e = .returned (.int .i64 0) ∧ w' = w := by
  go_enter Try.func29, Try.ntmps29
  go_wp2_with fail
  go_ret
  exact ⟨rfl, rfl⟩
theorem half_nil (w : World) : Calls Try.prog 30 #[.pointer none] w fun e w' => e = .returned (.int .i64 0) ∧ w' = w := by
  go_enter Try.func30, Try.ntmps30
  go_wp2_with fail
  go_ret
  exact ⟨rfl, rfl⟩
theorem next_nil (w : World) : Calls Try.prog 24 #[.pointer none] w fun e w' => e = .returned (.int .i64 0) ∧ w' = w := by
  go_enter Try.func24, Try.ntmps24
  go_wp2_with fail
  go_ret
  exact ⟨rfl, rfl⟩
theorem free_nil (w : World) : Calls Try.prog 22 #[.pointer none] w fun e w' => e = .returned (.int .i64 0) ∧ w' = w := by
  go_enter Try.func22, Try.ntmps22
  go_wp2_with fail
  go_ret
  exact ⟨rfl, rfl⟩
theorem copy_nil (w : World) : Calls Try.prog 31 #[.pointer none] w fun e w' => e = .returned (.pointer none) ∧ w' = w := by
  go_enter Try.func31, Try.ntmps31
  go_wp2_with fail
  go_ret
  exact ⟨rfl, rfl⟩
theorem objects_any (m : Option Addr) (w : World) : Calls Try.prog 39 #[.pointer m] w fun e w' => e = .returned (.func (.func 55) #[] #[.pointer (some ⟨w.heap.size, 0, none⟩)]) ∧ w' = w.alloc (.cells #[.pointer m] 31) := by
  go_enter Try.func39, Try.ntmps39
  go_wp2_with fail
  go_ret
  exact ⟨rfl, rfl⟩
theorem nil_func (b : Nat) (W : World) : (binOp .eql 68 (.func (.func 55) #[] #[.pointer (some ⟨b, 0, none⟩)]) .nilFunc).run Try.prog W = .ok (.bool false) W := by
  first
  | rfl
  | kernel_rfl
/-- Block B lies as it lay. -/
def KB (B : Nat) (W W' : World) : Prop := W'.heap[B]? = W.heap[B]?
theorem KB.of_grownBy {B : Nat} {W W' : World} {row : Option Nat} (hg : W.grownBy W' row) (hB : B < W.heap.size) (hr : some B ≠ row) : KB B W W' := hg.block B hB hr
theorem kb_b {B : Nat} {w : World} (hB : B < w.heap.size) (W : World) (l : Nat) (o o' : Obj) (hl : w.heap.size ≤ l) (h : W.heap[l]? = some o) (_ : o.isCells = false) (_ : o.isWalk = false) : KB B W (W.putObj l o') :=
  KB.of_grownBy (grownBy_putObj' W l o') (by have := (Array.getElem?_eq_some_iff.1 h).1; omega) (fun e => by cases e; omega)
theorem grown_own {β : Type} (w7 : World) (B : Nat) (row : Option Nat) (hB : w7.heap.size ≤ B) : OwnFrom B (fun (_ : β) W => w7.grownBy W row) := fun _ X Y r hs hg hr =>
  ⟨hg.os.trans hs.os, hg.tape.trans hs.tape, hg.output.trans hs.output, Nat.le_trans hs.size hg.size, fun k hk hne =>
    (hg.block k (Nat.lt_of_lt_of_le hk hs.size) (fun e => by have := (hr _ e.symm).1; omega)).trans (hs.block k hk hne)⟩
set_option maxRecDepth 100000 in
set_option maxHeartbeats 2000000 in
/-- The iterator of a memory that is not there tells nothing. -/
theorem objects_nil_stops (F : Fence) (n : Nat) (h55 : F.fn 55) (hro : F.round = none) (B : Nat) (w : World) (hB : B < w.heap.size) (hc : w.cell? ⟨B, 0, none⟩ = some (.pointer none)) :
    SeqStopsK F n Try.prog 55 #[.pointer (some ⟨B, 0, none⟩)] (fun x : Int => #[Value.int .i64 x]) (KB B) (fun ys => ys = []) (fun _ => False) 0 w := fun l J Jx W hW _ _ hY h0 => by
  have hcx : W.cell? ⟨B, 0, none⟩ = some (.pointer none) := (hW.cell (p := ⟨B, 0, none⟩) hB).trans hc
  refine callsIn_of_wp Try.func55 rfl h55 ?_ hro
  simp only [Try.ntmps55, List.size_toArray, List.length_cons, List.length_nil, Nat.reduceAdd, Nat.reduceSub, Array.replicate_succ, Array.replicate_zero, List.push_toArray, List.append_toArray, List.nil_append, List.cons_append]
  gi_wp2
  gi_loopw [3] (fun i wr => i = .int .i64 0 ∧ wr = W) (fun _ _ => 0)
  case atStart => exact ⟨rfl, rfl⟩
  case round =>
    obtain ⟨rfl, rfl⟩ := hrel
    gi_wp2
    go_end0
    exact ⟨⟨_, rfl⟩, .inl ⟨_, rfl, h0⟩⟩
theorem boxed_below {W W' : World} {B : Nat} {t : TypeId} {v : Value} (h : Boxed W B t v) (hb : Below W.heap.size W W') : Boxed W' B t v := (hb.block B h.lt).trans h
attribute [local go_sem] Oper.semAt_some
set_option maxRecDepth 100000 in
set_option maxHeartbeats 8000000 in
theorem nil_any (w : World) : Calls Try.prog 13 #[] w fun e w' => e = .returned (.bool true) ∧ Below w.heap.size w w' := by
  refine (callsIn_wide (n := 5)).1 (callsIn_of_wp_marks Try.func13 rfl trivial ?_ rfl)
  simp only [Try.ntmps13, List.size_toArray, List.length_cons, List.length_nil, Nat.reduceAdd, Nat.reduceSub, Array.replicate_succ, Array.replicate_zero, List.push_toArray, List.append_toArray, List.nil_append, List.cons_append]
  refine wpIn_wide.2 ?_
  go_wp2_with (first
    | (go_at_call 21; (with_reducible refine (allocN _ 1 1 1).mono ?_); rintro e w1 ⟨rfl, rfl⟩)
    | (go_at_call 33; (with_reducible refine (look_nil _ 1).mono ?_); rintro e w1 ⟨rfl, rfl⟩)
    | (go_at_call 26; (with_reducible refine (load_nil _ 1 0).mono ?_); rintro e w1 ⟨rfl, rfl⟩)
    | (go_at_call 25; (with_reducible refine (store_nil _ 1 0 1).mono ?_); rintro e w1 ⟨rfl, rfl⟩)
    | (go_at_call 32; (with_reducible refine (move_nil _ 1).mono ?_); rintro e w1 ⟨rfl, rfl⟩)
    | (go_at_call 39; (with_reducible refine (objects_any none _).mono ?_); rintro e w2 ⟨rfl, rfl⟩; refine Hid.out ?_))
  unfold Hid
  have bn := (Boxed.new w1 3 (.int .i64 0)).alloc (.cells #[.pointer none] 31)
  have bm := Boxed.new (w1.alloc (.cells #[.int .i64 0] 3)) 31 (.pointer none)
  have hB : Below w1.heap.size w1 ((w1.alloc (.cells #[.int .i64 0] 3)).alloc (.cells #[.pointer none] 31)) := ((Below.refl _ w1).alloc (Nat.le_refl _) _).alloc (by simp) _
  rw [World.size_alloc] at bm
  revert bn bm hB
  generalize (w1.alloc (.cells #[.int .i64 0] 3)).alloc (.cells #[.pointer none] 31) = w7
  intro bn bm hB
  have hnil := nil_func (w1.heap.size + 1) w7
  go_wp2_with fail
  refine (wpIn_wide (n := 5)).1 ?_
  refine' wpIn_rangeFunc_ownG (F := Fence.wide) (n := 5) rfl (by omega) (gf := 55) (lb := #[.pointer (some ⟨w1.heap.size + 1, 0, none⟩)]) rfl trivial (enters_of Try.func55 (by kernel_rfl) rfl)
    (objects_nil_stops Fence.wide (5 - 1) trivial rfl (w1.heap.size + 1) w7 bm.lt bm.cell) (fun h k => Eq.trans k h) (kb_b bm.lt) (Below.refl _ _) (fun _ => rfl)
    (fun pre W => w7.grownBy W none) (fun _ _ _ => False) (grown_own _ _ _ (Nat.le_refl _)) (fun _ _ _ _ _ h _ _ => h)
    ⟨rfl, rfl, rfl, Nat.le_refl _, fun _ _ _ => rfl⟩ _ ?assign ?body ?done ?stop
  case assign =>
    intro l x W K hK
    gi_wp2
    exact hK
  case body =>
    rintro l' pre x W' hg2 hlt
    exact absurd hlt (Nat.not_lt_zero _)
  case stop =>
    rintro D2 c2 pre2 W2 hD2 _ h
    exact h.elim
  case done =>
    rintro D ys W hD rfl hg hK
    have bn' := bn.kept hg (by simp)
    have hB' := hB.grown hg hB.size (fun k e => by cases e)
    have hcn := bn'.cell
    have hn1 := new_no 63 W (by omega)
    have hn2 := new_no 65537 W (by omega)
    have hw1 := bn.lt
    go_wp2_with (first
      | (go_at_call 20; (with_reducible refine hn1.mono ?_); clear hn1; rintro e w2 ⟨rfl, rfl⟩)
      | (go_at_call 20; (with_reducible refine hn2.mono ?_); clear hn2; rintro e w2 ⟨rfl, rfl⟩)
      | (go_at_call 28; (with_reducible refine (flip_nil _).mono ?_); rintro e w2 ⟨rfl, rfl⟩)
      | (go_at_call 29; (with_reducible refine (words_nil _).mono ?_); rintro e w2 ⟨rfl, rfl⟩)
      | (go_at_call 30; (with_reducible refine (half_nil _).mono ?_); rintro e w2 ⟨rfl, rfl⟩)
      | (go_at_call 24; (with_reducible refine (next_nil _).mono ?_); rintro e w2 ⟨rfl, rfl⟩)
      | (go_at_call 22; (with_reducible refine (free_nil _).mono ?_); rintro e w2 ⟨rfl, rfl⟩)
      | (go_at_call 31; (with_reducible refine (copy_nil _).mono ?_); rintro e w2 ⟨rfl, rfl⟩)
      | (go_at_call 18; (with_reducible refine (known_any _).mono ?_); rintro e w9 ⟨rfl, hB9⟩))
    have hK9 : w9.heap[D]? = some (.deferred (some [])) := (hB9.block D (Array.getElem?_eq_some_iff.1 hK).1).trans hK
    have hBf := hB'.trans (hB9.mono hB'.size)
    refine ⟨by simp, .inl ⟨_, _, rfl, run_takeDeferred hK9, ?_⟩⟩
    exact ⟨_, results_tmp rfl _ _ _, rfl, hBf.grown (grownBy_putObj' w9 D (.deferred none)) hBf.size (fun k e => by cases e; omega)⟩
end Go.Proofs.Ytaliolnndbnfhaa.Mem
