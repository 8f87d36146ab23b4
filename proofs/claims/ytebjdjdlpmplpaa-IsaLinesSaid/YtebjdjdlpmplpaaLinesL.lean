/- The lines of any text are told one by one; they may be left, and are told again: the walk of the law IsaLines. -/
import Derived.Test.YtebjdjdlpmplpaaLnF
import Derived.Test.YtebjdjdlpmplpaaTxIsa
import Derived.Deep.RegionHeld3
namespace Go.Proofs.Ytebjdjdlpmplpaa.Ln
open Go.RowKit Go.Shelf Go.Proofs.YtebjdjdlpmplpaaW.PrintWords Go.Proofs.YtebjdjdlpmplpaaW.PrintLast
set_option linter.unusedVariables false
set_option linter.unusedSimpArgs false

theorem known_any (w : World) : Calls Try.prog 17 #[] w fun e w' => e = .returned (.bool true) ∧ Below w.heap.size w w' :=
  Tx.kindlinglaw03_known.calls true w FaT.known_f
theorem boxed_below {W W' : World} {B : Nat} {t : TypeId} {v : Value} (h : Boxed W B t v) (hb : Below W.heap.size W W') : Boxed W' B t v := (hb.block B h.lt).trans h
theorem nil_func (b : Nat) (W : World) : (binOp .eql 46 (.func (.func 44) #[] #[.pointer (some ⟨b, 0, none⟩)]) .nilFunc).run Try.prog W = .ok (.bool false) W := by
  first
  | rfl
  | kernel_rfl
theorem results_cell {P : Program} {fn : Func} {p : Tmp} {ty : TypeId} (h : fn.results = #[.cell p ty]) (tmps : Array Value) (w : World) (a : Addr) (v : Value) (hp : tmps.getD p undef = .pointer (some a)) (hv : (loadVar ty a).run P w = .ok v w) :
    (results fn tmps).run P w = .ok v w := by
  have hp' : tmps[p]?.getD undef = .pointer (some a) := by simpa using hp
  simp [results, h, hp', asAddr, hv]
theorem load4 (w : World) (a : Addr) (b : Bool) (h : w.cell? a = some (.bool b)) : (loadVar 4 a).run Try.prog w = .ok (.bool b) w := by
  simp [loadVar, h, go_sem]
theorem below_then {B : Nat} {w w1 w2 : World} (h : Below B w w1) (hB : B ≤ w1.heap.size) (k : Below w1.heap.size w1 w2) : Below B w w2 := h.trans (k.mono hB)
set_option maxRecDepth 100000 in
set_option maxHeartbeats 4000000 in
theorem lines_much (s : ByteArray) (n : Int) (w : World) (h : 60000 < s.size) :
    Calls Try.prog 8 #[.string s, .int .i64 n] w fun e w' => e = .returned (.bool true) ∧ Below w.heap.size w w' := by
  have bn := Boxed.new w 3 (.int .i64 n)
  have b6 := Boxed.new (w.alloc (.cells #[.int .i64 n] 3)) 4 (.bool false)
  have hB0 : Below w.heap.size w ((w.alloc (.cells #[.int .i64 n] 3)).alloc (.cells #[.bool false] 4)) := ((Below.refl _ w).alloc (Nat.le_refl _) _).alloc (by simp) _
  have d1 : decide ((s.size : Int) > 60000) = true := decide_eq_true (by omega)
  rw [World.size_alloc] at b6
  go_enter Try.func8, Try.ntmps8
  go_wp2_with fail
  (with_reducible refine (known_any _).mono ?_)
  rintro e w1 ⟨rfl, hB1⟩
  have b6' := boxed_below b6 (hB1)
  have hc := b6'.cell
  have hf := b6'.frozen
  go_wp2_with fail
  refine bodyPost_ret (results_cell rfl _ _ ⟨w.heap.size + 1, 0, none⟩ _ rfl (load4 _ _ _ (World.cell?_setCell_same _ _ _ hc))) rfl ⟨rfl, ?_⟩
  exact ((hB0.trans (hB1.mono (by simp; omega))).setCell (p := ⟨w.heap.size + 1, 0, none⟩) (by simp) _)
attribute [local go_sem] Oper.semAt_some
theorem grown_own {β : Type} (w7 : World) (B : Nat) (row : Option Nat) (hB : w7.heap.size ≤ B) : OwnFrom B (fun (_ : β) W => w7.grownBy W row) := fun _ X Y r hs hg hr =>
  ⟨hg.os.trans hs.os, hg.tape.trans hs.tape, hg.output.trans hs.output, Nat.le_trans hs.size hg.size, fun k hk hne =>
    (hg.block k (Nat.lt_of_lt_of_le hk hs.size) (fun e => by have := (hr _ e.symm).1; omega)).trans (hs.block k hk hne)⟩
theorem grown_then {x y z : World} {row : Option Nat} (h : x.grownBy y row) (k : y.grownBy z row) : x.grownBy z row :=
  ⟨k.os.trans h.os, k.tape.trans h.tape, k.output.trans h.output, Nat.le_trans h.size k.size, fun i hi hne => (k.block i (Nat.lt_of_lt_of_le hi h.size) hne).trans (h.block i hi hne)⟩
theorem list_lines (s : ByteArray) (hs : s.size ≤ 60000) (w : World) :
    Calls Try.prog 24 #[.string s] w fun e w' => ∃ v, e = .returned v ∧ Kd.R Kd.string 9 w' w.heap.size (fun _ => True) v (linesOf s) ∧ Below w.heap.size w w' :=
  Tx.kindlingref03_Lines.calls (s.size + 1) s (linesOf s) w (lines_f s hs)
/-- The law's first loop: how much was counted, and why it ended. -/
def Cnt (n : Int) (pre : List (Nat × ByteArray)) : Prop := pre = [] ∨ (pre.length : Int) < n
def Left (n : Int) (pre : List (Nat × ByteArray)) : Prop := 1 ≤ pre.length ∧ n ≤ (pre.length : Int)
/-- What lies while the last line is reckoned. -/
structure Bun (w : World) (B6 Bw Bn Bm Bi D D2 : Nat) (vw : Value) (n m : Int) (k : Nat) (b : Bool) (W : World) : Prop where
  b6 : Boxed W B6 4 (.bool b)
  bw : Boxed W Bw 43 vw
  bn : Boxed W Bn 3 (.int .i64 n)
  bm : Boxed W Bm 3 (.int .i64 m)
  bi : Boxed W Bi 3 (.int .i64 (k : Int))
  bel : Below w.heap.size w W
  d1 : W.heap[D]? = some (.deferred (some []))
  d2 : W.heap[D2]? = some (.deferred (some []))
theorem Bun.below {w : World} {B6 Bw Bn Bm Bi D D2 : Nat} {vw : Value} {n m : Int} {k : Nat} {b : Bool} {W W' : World} (h : Bun w B6 Bw Bn Bm Bi D D2 vw n m k b W) (hb : Below W.heap.size W W') : Bun w B6 Bw Bn Bm Bi D D2 vw n m k b W' :=
  ⟨boxed_below h.b6 hb, boxed_below h.bw hb, boxed_below h.bn hb, boxed_below h.bm hb, boxed_below h.bi hb, h.bel.trans (hb.mono h.bel.size), (hb.block D (Array.getElem?_eq_some_iff.1 h.d1).1).trans h.d1, (hb.block D2 (Array.getElem?_eq_some_iff.1 h.d2).1).trans h.d2⟩
theorem two_marks {w W : World} {D D2 : Nat} (b6 : Boxed W (w.heap.size + 1) 4 (.bool true)) (bel : Below w.heap.size w W) (k1 : W.heap[D]? = some (.deferred (some []))) (k2 : W.heap[D2]? = some (.deferred (some []))) (hne : D ≠ D2)
    (h1 : w.heap.size + 1 < D) (h2 : w.heap.size + 1 < D2) {tm : Array Value} (hp : tm.getD 4 undef = .pointer (some ⟨w.heap.size + 1, 0, none⟩)) :
    LeavesInM Fence.wide 5 Try.prog Try.f8 tm (fun e w' => e = Ending.returned (Value.bool true) ∧ Below w.heap.size w w') [{ target := .collected D2, args := #[] }, { target := .collected D, args := #[] }] .returning W := by
  have k1' : (W.putObj D2 (.deferred none)).heap[D]? = some (.deferred (some [])) := (World.putObj_heap_other hne).trans k1
  refine ⟨by simp, .inl ⟨_, _, rfl, run_takeDeferred k2, by simp, .inl ⟨_, _, rfl, run_takeDeferred k1', ?_⟩⟩⟩
  have b := ((b6.kept (grownBy_putObj' W D2 (.deferred none)) (fun e => by have := Option.some.inj e; omega)).kept (grownBy_putObj' _ D (.deferred none)) (fun e => by have := Option.some.inj e; omega))
  refine ⟨_, results_cell rfl _ _ ⟨w.heap.size + 1, 0, none⟩ _ hp (load4 _ _ _ b.cell), rfl, ?_⟩
  exact (bel.grown (grownBy_putObj' W D2 (.deferred none)) bel.size (fun k e => by cases e; omega)).grown (grownBy_putObj' _ D (.deferred none)) (by have := bel.size; simp [World.putObj]; omega) (fun k e => by cases e; omega)
/-- What came so far are the first lines. -/
def Pf (s : ByteArray) (pre : List (Nat × ByteArray)) : Prop := ∃ r, prs (linesOf s) = pre ++ r
theorem prs_get (l : List ByteArray) (k : Nat) (h : k < (prs l).length) : (prs l)[k] = (k, l.getD k ByteArray.empty) := by
  rw [prs_length] at h
  simp [prs, List.getD, h]
theorem pf_len {s : ByteArray} {pre : List (Nat × ByteArray)} (h : Pf s pre) : pre.length ≤ (linesOf s).length := by
  obtain ⟨r, hr⟩ := h
  have := congrArg List.length hr
  rw [prs_length, List.length_append] at this
  omega
theorem pf_only {s : ByteArray} {pre : List (Nat × ByteArray)} {x : Nat × ByteArray} (h : Pf s (pre ++ [x])) : pre.length < (linesOf s).length ∧ x.1 = pre.length ∧ x.2 = (linesOf s).getD pre.length ByteArray.empty := by
  have hl := pf_len h
  rw [List.length_append, List.length_singleton] at hl
  obtain ⟨r, hr⟩ := h
  have hg := prs_get (linesOf s) pre.length (by rw [prs_length]; omega)
  rw [List.getElem_of_eq hr] at hg
  simp at hg
  exact ⟨by omega, by rw [hg], by rw [hg]; simp [List.getD]⟩
theorem pf_next {s : ByteArray} {pre : List (Nat × ByteArray)} {x : Nat × ByteArray} (h : Pf s pre) (hl : pre.length < (linesOf s).length) (h1 : x.1 = pre.length) (h2 : x.2 = (linesOf s).getD pre.length ByteArray.empty) : Pf s (pre ++ [x]) := by
  obtain ⟨r, hr⟩ := h
  have hg := prs_get (linesOf s) pre.length (by rw [prs_length]; omega)
  have hln := congrArg List.length hr
  rw [prs_length, List.length_append] at hln
  cases r with
  | nil => simp at hln; omega
  | cons y r =>
    rw [List.getElem_of_eq hr] at hg
    simp at hg
    obtain rfl : x = y := by
      rw [hg]
      exact Prod.ext h1 (by rw [h2]; simp [List.getD])
    exact ⟨r, by rw [hr]; simp⟩
set_option maxRecDepth 100000 in
set_option maxHeartbeats 4000000 in
theorem lines_few (s : ByteArray) (n : Int) (w : World) (hs : s.size ≤ 60000) (hn : -9223372036854775808 ≤ n ∧ n ≤ 9223372036854775807) :
    Calls Try.prog 8 #[.string s, .int .i64 n] w fun e w' => e = .returned (.bool true) ∧ Below w.heap.size w w' := by
  have d1 : decide ((s.size : Int) > 60000) = false := decide_eq_false (by omega)
  have bn := Boxed.new w 3 (.int .i64 n)
  have b6 := Boxed.new (w.alloc (.cells #[.int .i64 n] 3)) 4 (.bool false)
  have hB0 : Below w.heap.size w ((w.alloc (.cells #[.int .i64 n] 3)).alloc (.cells #[.bool false] 4)) := ((Below.refl _ w).alloc (Nat.le_refl _) _).alloc (by simp) _
  have bn := bn.alloc (.cells #[.bool false] 4)
  rw [World.size_alloc] at b6
  refine (callsIn_wide (n := 5)).1 (callsIn_of_wp_marks Try.func8 rfl trivial ?_ rfl)
  simp only [Try.ntmps8, List.size_toArray, List.length_cons, List.length_nil, Nat.reduceAdd, Nat.reduceSub, Array.replicate_succ, Array.replicate_zero, List.push_toArray, List.append_toArray, List.nil_append, List.cons_append]
  refine wpIn_wide.2 ?_
  go_wp2_with fail
  refine (list_lines s hs _).mono ?_
  rintro e w1 ⟨vw, rfl, hR1, hB1⟩
  have b6 := boxed_below b6 hB1
  have bn := boxed_below bn hB1
  have hB1 := hB0.trans (hB1.mono (by simp; omega))
  have hR1 := Kd.R_lower hR1 (base' := w.heap.size) (by simp; omega)
  obtain ⟨Aw, cw, rfl⟩ := Kd.R_slice hR1
  obtain ⟨vw, hvw⟩ : ∃ vw, vw = Value.slice Aw (linesOf s).length cw := ⟨_, rfl⟩
  clear hB0
  have hs1 : w.heap.size + 1 < w1.heap.size := b6.lt
  have bw := Boxed.new w1 43 (.slice none 0 0)
  have hcw := bw.cell
  have hfw := bw.frozen
  go_wp2_with fail
  rw [← hvw] at hR1 ⊢
  have bw2 := Boxed.new w1 43 vw
  have b62 := b6.alloc (.cells #[vw] 43)
  have bn2 := bn.alloc (.cells #[vw] 43)
  have hB2 := hB1.alloc (by omega) (.cells #[vw] 43)
  have hR2 := Kd.R_alloc hR1 (.cells #[vw] 43)
  have hs2 : w1.heap.size < (w1.alloc (.cells #[vw] 43)).heap.size := bw2.lt
  clear bw b6 bn hR1 hcw hfw
  revert bw2 b62 bn2 hB2 hR2 hs2
  generalize w1.alloc (.cells #[vw] 43) = w2
  intro bw b6 bn hB hR hs2
  refine (callsIn_wide (n := 5)).1 ((lines_in Fence.wide 5 trivial rfl s _).mono ?_)
  rintro e w3 ⟨rfl, rfl⟩
  have bs := Boxed.new w2 9 (.string s)
  have b6 := b6.alloc (.cells #[.string s] 9)
  have bn := bn.alloc (.cells #[.string s] 9)
  have bw := bw.alloc (.cells #[.string s] 9)
  have hR := Kd.R_alloc hR (.cells #[.string s] 9)
  have hB := hB.alloc (by omega) (.cells #[.string s] 9)
  have hs3 : w2.heap.size < (w2.alloc (.cells #[.string s] 9)).heap.size := bs.lt
  revert bs b6 bn bw hR hB hs3
  generalize w2.alloc (.cells #[.string s] 9) = w3
  intro bs b6 bn bw hR hB hs3
  have hnil := nil_func w2.heap.size w3
  go_wp2_with fail
  have bi := Boxed.new w3 3 (.int .i64 0)
  have b6 := b6.alloc (.cells #[.int .i64 0] 3)
  have bn := bn.alloc (.cells #[.int .i64 0] 3)
  have bw := bw.alloc (.cells #[.int .i64 0] 3)
  have bs := bs.alloc (.cells #[.int .i64 0] 3)
  have hR := Kd.R_alloc hR (.cells #[.int .i64 0] 3)
  have hB := hB.alloc (by omega) (.cells #[.int .i64 0] 3)
  have hs4 : w3.heap.size < (w3.alloc (.cells #[.int .i64 0] 3)).heap.size := bi.lt
  clear hnil
  revert bi bs b6 bn bw hR hB hs4
  generalize w3.alloc (.cells #[.int .i64 0] 3) = w4
  intro bi b6 bn bw bs hR hB hs4
  refine (wpIn_wide (n := 5)).1 ?_
  have hs0 : w.heap.size < w4.heap.size := by omega
  refine' wpIn_rangeFunc_ownG (F := Fence.wide) (n := 5) rfl (by omega) (gf := 44) (lb := #[.pointer (some ⟨w2.heap.size, 0, none⟩)]) rfl trivial (enters_of Try.func44 (by kernel_rfl) rfl)
    (lines_stops Fence.wide (5 - 1) trivial rfl (by omega) w2.heap.size s (by omega) _ (by omega) bs.cell) (fun h k => h.trans k) (kb_b (by omega)) (Below.refl _ _) (fun _ => rfl)
    (fun pre W => (w4.grownBy W (some w3.heap.size) ∧ Boxed W w3.heap.size 3 (.int .i64 (pre.length : Int))) ∧ Cnt n pre)
    (fun c pre W => (w4.grownBy W (some w3.heap.size) ∧ Boxed W w3.heap.size 3 (.int .i64 (pre.length : Int))) ∧ Left n pre ∧ c = .exit 0)
    (OwnFrom.and (OwnFrom.and (grown_own _ _ _ (Nat.le_refl _)) (Own.from (boxed_own _ _ (fun pre : List (Nat × ByteArray) => Value.int .i64 (pre.length : Int))) _)) (ownFrom_pure _ _))
    (fun _ => OwnFrom.and (OwnFrom.and (grown_own _ _ _ (Nat.le_refl _)) (Own.from (boxed_own _ _ (fun pre : List (Nat × ByteArray) => Value.int .i64 (pre.length : Int))) _)) (OwnFrom.and (ownFrom_pure _ _) (ownFrom_pure _ _)))
    ⟨⟨⟨rfl, rfl, rfl, Nat.le_refl _, fun _ _ _ => rfl⟩, bi⟩, .inl rfl⟩ _ ?assign ?body ?done ?stop
  case assign =>
    intro l x W K hK
    gi_wp2
    exact hK
  case body =>
    rintro l' pre x W ⟨⟨hg, bi'⟩, hcnt⟩ hlt
    have bn' := bn.kept hg (fun e => by have := Option.some.inj e; omega)
    have hci := bi'.cell
    have hfi := bi'.frozen
    have hcn := bn'.cell
    have hB7 : w4.heap.size ≤ W.heap.size := hg.size
    have hgs := grownBy_setCell' W w3.heap.size (.int .i64 ((pre.length : Int) + 1))
    have hkb := KB.of_grownBy (B := w2.heap.size) hgs (by omega) (fun e => by have := Option.some.inj e; omega)
    have hkp : KeepsFrom w4.heap.size W (W.setCell ⟨w3.heap.size, 0, none⟩ (.int .i64 ((pre.length : Int) + 1))) := KeepsFrom.of_grownBy hgs (fun j e => by cases e; omega)
    have hbn : Boxed (W.setCell ⟨w3.heap.size, 0, none⟩ (.int .i64 ((pre.length : Int) + 1))) w3.heap.size 3 (.int .i64 ((pre ++ [x]).length : Int)) := by
      rw [List.length_append, List.length_singleton]; exact bi'.set _
    by_cases hst : n ≤ (pre.length : Int) + 1
    · have hd : decide ((pre.length : Int) + 1 ≥ n) = true := decide_eq_true hst
      gi_wp2
      exact ⟨hkp, ⟨grown_then hg hgs, hbn⟩, ⟨by simp, by simpa using hst⟩, rfl⟩
    · have hd : decide ((pre.length : Int) + 1 ≥ n) = false := decide_eq_false hst
      gi_wp2
      exact ⟨hkp, hkb, ⟨grown_then hg hgs, hbn⟩, .inr (by simp; omega)⟩
  case' done =>
    rintro D ys W hD rfl ⟨⟨hg, bi'⟩, -⟩ hK
    obtain ⟨m, hm⟩ : ∃ m : Int, m = ((prs (linesOf s)).length : Int) := ⟨_, rfl⟩
    have hend : m = ((linesOf s).length : Int) ∨ n ≤ m ∧ 1 ≤ m := by rw [prs_length] at hm; exact .inl hm
    have hmr : 0 ≤ m := by omega
    rw [← hm] at bi'
    clear hm
    go_wp2_with fail
  case' stop =>
    rintro D c pre W hD hto ⟨⟨hg, bi'⟩, ⟨hl1, hl2⟩, rfl⟩ hK
    obtain ⟨m, hm⟩ : ∃ m : Int, m = (pre.length : Int) := ⟨_, rfl⟩
    have hend : m = ((linesOf s).length : Int) ∨ n ≤ m ∧ 1 ≤ m := .inr ⟨by omega, by omega⟩
    have hmr : 0 ≤ m := by omega
    rw [← hm] at bi'
    clear hm hl1 hl2 hto
    gi_wp2
    go_wp2_with fail
  all_goals (
    have b8 := Boxed.new W 3 (.int .i64 0)
    have hsz : w4.heap.size ≤ W.heap.size := hg.size
    have b6' := (b6.kept hg (fun e => by have := Option.some.inj e; omega)).alloc (.cells #[.int .i64 0] 3)
    have bw' := (bw.kept hg (fun e => by have := Option.some.inj e; omega)).alloc (.cells #[.int .i64 0] 3)
    have bs' := (bs.kept hg (fun e => by have := Option.some.inj e; omega)).alloc (.cells #[.int .i64 0] 3)
    have bi'' := bi'.alloc (.cells #[.int .i64 0] 3)
    have hR' := Kd.R_alloc (Kd.R_mono (Kd.R_grown (Kd.R_types hR bi (by intro q hq; simp [Kd.string, Kd.scalar] at hq; omega)) hg (fun j hj e => hj.2 (Option.some.inj e))) (fun _ _ => trivial) (ok' := fun _ => True)) (.cells #[.int .i64 0] 3)
    have hB' := (hB.grown hg (by omega) (fun k e => by cases e; omega)).alloc (by omega) (.cells #[.int .i64 0] 3)
    have hDlt := (Array.getElem?_eq_some_iff.1 hK).1
    have hK' : (W.alloc (.cells #[.int .i64 0] 3)).heap[D]? = some (.deferred (some [])) := (Below.heap_alloc _ _ _ hDlt).trans hK
    have bn' := (bn.kept hg (fun e => by have := Option.some.inj e; omega)).alloc (.cells #[.int .i64 0] 3)
    have hs8 : W.heap.size < (W.alloc (.cells #[.int .i64 0] 3)).heap.size := b8.lt
    clear b6 bw bs bi bn hR hB hg bi' hK
    revert b8 b6' bw' bs' bi'' bn' hR' hB' hK' hs8
    generalize W.alloc (.cells #[.int .i64 0] 3) = w5
    intro b8 b6 bw bs bi hR hB hK bn hs8
    refine (wpIn_wide (n := 5)).1 ?_
    have hRb := Kd.R_types hR b8 (by intro q hq; simp [Kd.string, Kd.scalar] at hq; omega)
    refine' wpIn_rangeFunc_ownG (F := Fence.wide) (n := 5) rfl (by omega) (gf := 44) (lb := #[.pointer (some ⟨w2.heap.size, 0, none⟩)]) rfl trivial (enters_of Try.func44 (by kernel_rfl) rfl)
      (lines_stops Fence.wide (5 - 1) trivial rfl (by omega) w2.heap.size s (by omega) _ (by omega) bs.cell) (fun h k => h.trans k) (kb_b (by omega)) (Below.refl _ _) (fun _ => rfl)
      (fun pre W' => (w5.grownBy W' (some W.heap.size) ∧ Boxed W' W.heap.size 3 (.int .i64 (pre.length : Int))) ∧ Pf s pre)
      (fun _ pre _ => ¬ Pf s pre)
      (OwnFrom.and (OwnFrom.and (grown_own _ _ _ (Nat.le_refl _)) (Own.from (boxed_own _ _ (fun pre : List (Nat × ByteArray) => Value.int .i64 (pre.length : Int))) _)) (ownFrom_pure _ _))
      (fun _ => ownFrom_pure _ _)
      ⟨⟨⟨rfl, rfl, rfl, Nat.le_refl _, fun _ _ _ => rfl⟩, b8⟩, ⟨_, rfl⟩⟩ _ ?assign2 ?body2 ?done2 ?stop2
    case assign2 =>
      intro l x W K hK
      gi_wp2
      exact hK
    case body2 =>
      rintro l' pre x W' ⟨⟨hg, bi'⟩, htold⟩ hlt
      have hLn : (linesOf s).length ≤ 60001 := by have := (scan_le s (s.size + 1)).2; unfold linesOf; omega
      obtain ⟨x1, x2⟩ := x
      obtain ⟨k, hkd⟩ : ∃ k, pre.length = k := ⟨_, rfl⟩
      have hkl := pf_len htold
      have hno : ∀ y, Pf s (pre ++ [y]) → k < (linesOf s).length ∧ y.1 = k ∧ y.2 = (linesOf s).getD k ByteArray.empty := by
        intro y hy
        rw [← hkd]
        exact pf_only hy
      have hyes : ∀ y : Nat × ByteArray, k < (linesOf s).length → y.1 = k → y.2 = (linesOf s).getD k ByteArray.empty → Pf s (pre ++ [y]) ∧ (pre ++ [y]).length = k + 1 := by
        intro y h1 h2 h3
        rw [← hkd] at h1 h2 h3 ⊢
        exact ⟨pf_next htold h1 h2 h3, by simp⟩
      rw [hkd] at bi' hkl
      clear htold hlt hkd
      have bw' := bw.kept hg (fun e => by have := Option.some.inj e; omega)
      have b6' := b6.kept hg (fun e => by have := Option.some.inj e; omega)
      have hR' := Kd.R_grown hRb hg (fun j hj e => hj.2 (Option.some.inj e))
      have hci := bi'.cell
      have hfi := bi'.frozen
      have hc6 := b6'.cell
      have hf6 := b6'.frozen
      have hB7 : w5.heap.size ≤ W'.heap.size := hg.size
      have hgs := grownBy_setCell' W' (w.heap.size + 1) (.bool false)
      have hgs4 : KeepsFrom w5.heap.size W' (W'.setCell ⟨w.heap.size + 1, 0, none⟩ (.bool false)) := KeepsFrom.of_grownBy hgs (fun j e => by cases e; omega)
      by_cases hx1 : x1 = k
      · subst hx1
        have t1 : ((x1 : Int) != (x1 : Int)) = false := by simp
        by_cases hkl' : x1 < (linesOf s).length
        · have t2 : decide ((x1 : Int) ≥ ((linesOf s).length : Int)) = false := decide_eq_false (by omega)
          rw [hvw] at bw' hR'
          obtain ⟨gw, cw', ew, -, hgw, -⟩ := Kd.R_form hR' (by omega)
          rw [ew] at bw' hR'
          have hcw' := bw'.cell
          have hx := (Kd.R_celln ByteArray.empty hR' (x1 : Int) (by omega) (by omega)).1
          simp only [Int.toNat_natCast, rdOf] at hx
          have hk0 : decide (0 ≤ (x1 : Int)) = true := decide_eq_true (by omega)
          have hk1 : decide ((x1 : Int) < ((linesOf s).length : Int)) = true := decide_eq_true (by omega)
          obtain ⟨ln, hln⟩ : ∃ ln, (linesOf s).getD x1 ByteArray.empty = ln := ⟨_, rfl⟩
          rw [hln] at hx
          rw [hln] at hno hyes
          by_cases hx2 : x2 = ln
          · subst hx2
            have hyy := hyes (x1, x2) hkl' rfl rfl
            clear hno hyes hR' hRb hR hln
            gi_wp2
            have hgs8 := grownBy_setCell' W' W.heap.size (.int .i64 ((x1 : Int) + 1))
            refine ⟨KeepsFrom.of_grownBy hgs8 (fun j e => by cases e; omega), KB.of_grownBy hgs8 (by omega) (fun e => by have := Option.some.inj e; omega), ⟨grown_then hg hgs8, ?_⟩, hyy.1⟩
            rw [hyy.2]
            exact bi'.set _
          · have hnn : ¬ Pf s (pre ++ [(x1, x2)]) := fun h => hx2 (hno _ h).2.2
            have t3 : (x2.toList == ln.toList) = false := beq_eq_false_iff_ne.2 (fun h => hx2 (by rw [ByteArray.toList_eq, ByteArray.toList_eq] at h; exact ByteArray.ext (Array.toList_inj.1 h)))
            have t4 : decide ((linesOf s).length ≤ x1) = false := decide_eq_false (by omega)
            clear hno hyes hR' hRb hR hln
            gi_wp2
            exact ⟨hgs4, hnn⟩
        · have t2 : decide ((x1 : Int) ≥ ((linesOf s).length : Int)) = true := decide_eq_true (by omega)
          have hcw' := bw'.cell
          have hnn : ¬ Pf s (pre ++ [(x1, x2)]) := fun h => hkl' (hno _ h).1
          rw [hvw] at hcw'
          clear hno hyes hR' hRb hR
          gi_wp2
          exact ⟨hgs4, hnn⟩
      · have t1 : ((x1 : Int) != (k : Int)) = true := bne_iff_ne.2 (by omega)
        have hnn : ¬ Pf s (pre ++ [(x1, x2)]) := fun h => hx1 (hno _ h).2.1
        clear hno hyes hR' hRb hR
        gi_wp2
        exact ⟨hgs4, hnn⟩
    case done2 =>
      rintro D2 ys W2 hD2 rfl ⟨⟨hg, bi'⟩, -⟩ hK2
      have hsz2 : w5.heap.size ≤ W2.heap.size := hg.size
      have hDlt2 : D < w5.heap.size := (Array.getElem?_eq_some_iff.1 hK).1
      have hk1 : W2.heap[D]? = some (.deferred (some [])) := (hg.block D hDlt2 (fun e => by have := Option.some.inj e; omega)).trans hK
      rw [prs_length] at bi'
      have bun : Bun w (w.heap.size + 1) w1.heap.size w.heap.size w3.heap.size W.heap.size D D2 (.slice Aw (linesOf s).length cw) n m (linesOf s).length false W2 := by
        rw [← hvw]
        exact ⟨b6.kept hg (fun e => by have := Option.some.inj e; omega), bw.kept hg (fun e => by have := Option.some.inj e; omega), bn.kept hg (fun e => by have := Option.some.inj e; omega), bi.kept hg (fun e => by have := Option.some.inj e; omega), bi', hB.grown hg (by omega) (fun k e => by cases e; omega), hk1, hK2⟩
      have hne1 : w1.heap.size ≠ w.heap.size + 1 := by omega
      have hne2 : w3.heap.size ≠ w.heap.size + 1 := by omega
      have hne3 : W.heap.size ≠ w.heap.size + 1 := by omega
      have hne4 : w.heap.size ≠ w.heap.size + 1 := by omega
      have hDD : D ≠ D2 := by omega
      have hD1 : w.heap.size + 1 < D := by omega
      have hD2' : w.heap.size + 1 < D2 := by omega
      clear hR hRb hB hg hK b6 bw bs bi bn hk1 hK2 bi' hvw hR1 hsz hsz2
      have hq1 := bun.bw.cell
      have hq2 := bun.bn.cell
      have hq3 := bun.bm.cell
      have hq4 := bun.bi.cell
      by_cases hml : m = ((linesOf s).length : Int)
      · subst hml
        clear hend
        have e1 : (((linesOf s).length : Int) == ((linesOf s).length : Int)) = true := beq_iff_eq.2 rfl
        go_wp2_with (go_at_call 17; (with_reducible refine (known_any _).mono ?_); rintro e w' ⟨rfl, hb⟩; have bun := bun.below hb; have hc6 := bun.b6.cell; have hf6 := bun.b6.frozen; clear hb)
        have b6' := bun.b6.set (.bool true)
        have bel' := bun.bel.setCell (p := ⟨w.heap.size + 1, 0, none⟩) (by simp) (.bool true)
        have k1 := (Below.heap_setCell _ ⟨w.heap.size + 1, 0, none⟩ (.bool true) D (show D ≠ w.heap.size + 1 by omega)).trans bun.d1
        have k2 := (Below.heap_setCell _ ⟨w.heap.size + 1, 0, none⟩ (.bool true) D2 (show D2 ≠ w.heap.size + 1 by omega)).trans bun.d2
        exact two_marks b6' bel' k1 k2 hDD (by omega) (by omega) rfl
      · have hm2 : n ≤ m ∧ 1 ≤ m := hend.resolve_left hml
        clear hend
        have e0 : (((linesOf s).length : Int) == ((linesOf s).length : Int)) = true := beq_iff_eq.2 rfl
        have e1 : (m == ((linesOf s).length : Int)) = false := beq_eq_false_iff_ne.2 hml
        have e2 : decide (m ≥ n) = true := decide_eq_true hm2.1
        have e3 : decide (m ≥ 1) = true := decide_eq_true hm2.2
        go_wp2_with (go_at_call 17; (with_reducible refine (known_any _).mono ?_); rintro e w' ⟨rfl, hb⟩; have bun := bun.below hb; have hc6 := bun.b6.cell; have hf6 := bun.b6.frozen; clear hb)
        have b6' := bun.b6.set (.bool true)
        have bel' := bun.bel.setCell (p := ⟨w.heap.size + 1, 0, none⟩) (by simp) (.bool true)
        have k1 := (Below.heap_setCell _ ⟨w.heap.size + 1, 0, none⟩ (.bool true) D (show D ≠ w.heap.size + 1 by omega)).trans bun.d1
        have k2 := (Below.heap_setCell _ ⟨w.heap.size + 1, 0, none⟩ (.bool true) D2 (show D2 ≠ w.heap.size + 1 by omega)).trans bun.d2
        exact two_marks b6' bel' k1 k2 hDD (by omega) (by omega) rfl
    case stop2 =>
      rintro D c pre W _ h1 h2 _
      exact (h2 (prs_prefix h1)).elim)
/-- The law's walk, whatever the input. -/
theorem lines_walk (a0 : ByteArray) (a1 : Int) (w : World) (w0 : a0.size ≤ 140737488351232) (w1 : (Lit.int .i64 a1).wf = true) :
    Calls Try.prog 8 #[.string a0, .int .i64 a1] w fun e w' => e = .returned (.bool true) ∧ Below w.heap.size w w' := by
  by_cases h : 60000 < a0.size
  · exact lines_much a0 a1 w h
  · exact lines_few a0 a1 w (by omega) (FaT.i64_of w1)
end Go.Proofs.Ytebjdjdlpmplpaa.Ln
