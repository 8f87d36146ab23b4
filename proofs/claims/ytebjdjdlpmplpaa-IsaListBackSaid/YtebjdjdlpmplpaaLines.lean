/- What isa.Lines tells: the lines of a text, one by one, each with its number; a string of at most 140737488351232 bytes. -/
import Derived.RangeFuncNested
import Derived.RangeFuncBound
import Derived.RangeFuncCalls
import Derived.RangeFuncLeaves
import Derived.RangeFuncBox
import Derived.Shelf.Abstract
import Derived.Shelf.RegionOpen
import Derived.WalkKit
import Derived.OwnWalkIn
import Derived.TacticsInMore
import Derived.LoopNIn
import Derived.LoopIn
import Derived.WalkLawsBesides
import Derived.Laws.BytesArg
import Derived.Laws.Slices
import Derived.Deep.LoopGhost
import Derived.Maps.AppendAt
import Derived.Test.YtebjdjdlpmplpaaProg
namespace Go.Proofs.Ytebjdjdlpmplpaa.Ln
open Go.RowKit Go.Shelf
theorem hid {p : Prop} (h : p) : Hid p := h
/-- The place i is in a line that began at fr: no line ends there. -/
def In (s : ByteArray) (fr i : Nat) : Prop := (∃ h : i < s.size, ((s[i]'h).toNat : Int) ≠ 10) ∨ (i = s.size ∧ fr = i)
open Classical in
noncomputable def step (s : ByteArray) (i : Nat) (p : Nat × List ByteArray) : Nat × List ByteArray :=
  if In s p.1 i then p else (i + 1, p.2 ++ [s.extract p.1 i])
noncomputable def scan (s : ByteArray) : Nat → Nat × List ByteArray
  | 0 => (0, [])
  | i + 1 => step s i (scan s i)
noncomputable def linesOf (s : ByteArray) : List ByteArray := (scan s (s.size + 1)).2
/-- Lines with their numbers. -/
def prs (l : List ByteArray) : List (Nat × ByteArray) := l.zipIdx.map fun p => (p.2, p.1)
theorem prs_snoc (l : List ByteArray) (x : ByteArray) : prs (l ++ [x]) = prs l ++ [(l.length, x)] := by
  simp [prs, List.zipIdx_append]
theorem prs_length (l : List ByteArray) : (prs l).length = l.length := by simp [prs]
theorem step_in {s : ByteArray} {i : Nat} {p : Nat × List ByteArray} (h : In s p.1 i) : step s i p = p := by
  unfold step; exact if_pos h
theorem step_out {s : ByteArray} {i : Nat} {p : Nat × List ByteArray} (h : ¬ In s p.1 i) : step s i p = (i + 1, p.2 ++ [s.extract p.1 i]) := by
  unfold step; exact if_neg h
theorem scan_succ (s : ByteArray) (i : Nat) : scan s (i + 1) = step s i (scan s i) := rfl
theorem scan_le (s : ByteArray) (i : Nat) : (scan s i).1 ≤ i ∧ (scan s i).2.length ≤ i := by
  induction i with
  | zero => exact ⟨Nat.le_refl _, Nat.le_refl _⟩
  | succ i ih =>
    rw [scan_succ]
    by_cases h : In s (scan s i).1 i
    · rw [step_in h]; omega
    · rw [step_out h]; simp; omega
/-- What comes so far. -/
def Told (s : ByteArray) (pre : List (Nat × ByteArray)) : Prop := ∃ i, i ≤ s.size + 1 ∧ pre = prs (scan s i).2
def KB (B : Nat) (W W' : World) : Prop := W'.heap[B]? = W.heap[B]?
theorem KB.trans {B : Nat} {X Y Z : World} (h : KB B X Y) (k : KB B Y Z) : KB B X Z := Eq.trans k h
theorem KB.cell {B o : Nat} {X Y : World} (h : KB B X Y) {v : Value} (hc : X.cell? ⟨B, o, none⟩ = some v) : Y.cell? ⟨B, o, none⟩ = some v := (World.cell?_of_block (w := X) (w' := Y) (a := ⟨B, o, none⟩) h).trans hc
theorem KB.of_grownBy {B : Nat} {W W' : World} {row : Option Nat} (hg : W.grownBy W' row) (hB : B < W.heap.size) (hr : some B ≠ row) : KB B W W' := hg.block B hB hr
theorem kb_b {B : Nat} {w : World} (hB : B < w.heap.size) (W : World) (l : Nat) (o o' : Obj) (hl : w.heap.size ≤ l) (h : W.heap[l]? = some o) (_ : o.isCells = false) (_ : o.isWalk = false) : KB B W (W.putObj l o') :=
  KB.of_grownBy (grownBy_putObj' W l o') (by have := (Array.getElem?_eq_some_iff.1 h).1; omega) (fun e => by cases e; omega)
attribute [local go_sem] Oper.semAt_some
set_option maxRecDepth 100000 in
set_option maxHeartbeats 2000000 in
theorem lines1_in (F : Fence) (n : Nat) (h44 : F.fn 44) (hro : F.round = none) (hn : 1 ≤ n) (l Bs : Nat) (s : ByteArray) (hs : s.size ≤ 140737488351232) (J Jx : List (Nat × ByteArray) → World → Prop)
    (hY : ∀ pre x W, J pre W → pre.length < s.size + 1 → YieldAt F (n - 1) Try.prog l #[.int .i64 (x.1 : Int), .string x.2] W fun e W' =>
      (e = .returned (.bool true) ∧ J (pre ++ [x]) W' ∧ KB Bs W W') ∨ (e = .returned (.bool false) ∧ Jx (pre ++ [x]) W'))
    (W : World) (hBs : W.cell? ⟨Bs, 0, none⟩ = some (.string s)) (h0 : J [] W) :
    CallsIn F n Try.prog 44 #[.func (.yield l) #[] #[], .pointer (some ⟨Bs, 0, none⟩)] W fun e W' => (∃ v, e = .returned v) ∧
      ((∃ ys, ys = prs (linesOf s) ∧ J ys W') ∨ (∃ pre, Told s pre ∧ Jx pre W')) := by
  refine callsIn_of_wp Try.func44 rfl h44 ?_ hro
  simp only [Try.ntmps44, List.size_toArray, List.length_cons, List.length_nil, Nat.reduceAdd, Nat.reduceSub, Array.replicate_succ, Array.replicate_zero, List.push_toArray, List.append_toArray, List.nil_append, List.cons_append]
  gi_wp2
  gi_loopw [3, 4, 5] (fun fr nn i wr => ∃ k : Nat, k ≤ s.size + 1 ∧ fr = .int .i64 ((scan s k).1 : Int) ∧ nn = .int .i64 ((scan s k).2.length : Int) ∧ i = .int .i64 (k : Int) ∧ J (prs (scan s k).2) wr ∧ KB Bs W wr)
    (fun _ _ i _ => s.size + 1 - (intOf i).toNat)
  case atStart => exact ⟨0, Nat.zero_le _, rfl, rfl, rfl, h0, rfl⟩
  case round =>
    obtain ⟨k, hk, rfl, rfl, rfl, hJs, hnx⟩ := hrel
    have hcx : wr.cell? ⟨Bs, 0, none⟩ = some (.string s) := hnx.cell hBs
    have hle := scan_le s k
    obtain ⟨fr, hfr⟩ : ∃ fr, (scan s k).1 = fr := ⟨_, rfl⟩
    obtain ⟨ls, hls⟩ : ∃ ls, (scan s k).2 = ls := ⟨_, rfl⟩
    have hsc : scan s k = (fr, ls) := by rw [← hfr, ← hls]
    have hsu : scan s (k + 1) = step s k (fr, ls) := by rw [scan_succ, hsc]
    rw [hfr, hls] at hle
    rw [hls] at hJs
    rw [hfr, hls]
    clear hfr hls
    by_cases hlt : k ≤ s.size
    · obtain ⟨fn, tmps, assign, body, hy, hR⟩ := hY _ (ls.length, s.extract fr k) wr hJs (by rw [prs_length]; omega)
      by_cases hk1 : k < s.size
      · by_cases hb : ((s[k]'hk1).toNat : Int) = 10
        · have hst : scan s (k + 1) = (k + 1, ls ++ [s.extract fr k]) := by
            rw [hsu, step_out]
            rintro (⟨h, h'⟩ | ⟨h, -⟩)
            · exact h' hb
            · omega
          clear hsu
          gi_wp2_with fail
          refine hR.mono ?_
          rintro e W3 (⟨rfl, hJ3, hk3⟩ | ⟨rfl, hJx3⟩)
          · gi_wp2
            exact ⟨⟨k + 1, by omega, by rw [hst]; simp, by rw [hst]; simp, by simp, by rw [hst, prs_snoc]; exact hJ3, hnx.trans hk3⟩, by simp [intOf] <;> omega⟩
          · gi_wp2
            refine bodyPost_ret (results_none rfl _ _ _) rfl ?_
            exact ⟨⟨_, rfl⟩, .inr ⟨_, ⟨k + 1, by omega, by rw [hst, prs_snoc]⟩, hJx3⟩⟩
        · have hst : scan s (k + 1) = (fr, ls) := by
            rw [hsu, step_in]
            exact .inl ⟨hk1, hb⟩
          clear hsu
          gi_wp2_with fail
          exact ⟨⟨k + 1, by omega, by rw [hst], by rw [hst], by simp, by rw [hst]; exact hJs, hnx⟩, by simp [intOf]; omega⟩
      · obtain rfl : k = s.size := by omega
        by_cases hf : fr = s.size
        · subst hf
          have hst : scan s (s.size + 1) = (s.size, ls) := by
            rw [hsu, step_in]
            exact .inr ⟨rfl, rfl⟩
          clear hsu
          gi_wp2_with fail
          exact ⟨⟨s.size + 1, by omega, by rw [hst], by rw [hst], by simp, by rw [hst]; exact hJs, hnx⟩, by simp [intOf]⟩
        · have hst : scan s (s.size + 1) = (s.size + 1, ls ++ [s.extract fr s.size]) := by
            rw [hsu, step_out]
            rintro (⟨h, -⟩ | ⟨-, h⟩)
            · omega
            · exact hf h
          clear hsu
          gi_wp2_with fail
          refine hR.mono ?_
          rintro e W3 (⟨rfl, hJ3, hk3⟩ | ⟨rfl, hJx3⟩)
          · gi_wp2
            exact ⟨⟨s.size + 1, by omega, by rw [hst]; simp, by rw [hst]; simp, by simp, by rw [hst, prs_snoc]; exact hJ3, hnx.trans hk3⟩, by simp [intOf] <;> omega⟩
          · gi_wp2
            refine bodyPost_ret (results_none rfl _ _ _) rfl ?_
            exact ⟨⟨_, rfl⟩, .inr ⟨_, ⟨s.size + 1, by omega, by rw [hst, prs_snoc]⟩, hJx3⟩⟩
    · obtain rfl : k = s.size + 1 := by omega
      gi_wp2
      go_end0
      exact ⟨⟨_, rfl⟩, .inl ⟨_, rfl, by unfold linesOf; rw [hsc]; exact hJs⟩⟩

set_option maxHeartbeats 1000000 in
/-- isa.Lines: the string is boxed; the function value captures the box. -/
theorem lines_in (F : Fence) (n : Nat) (h25 : F.fn 25) (hro : F.round = none) (s : ByteArray) (w : World) :
    CallsIn F n Try.prog 25 #[.string s] w fun e w' => e = .returned (.func (.func 44) #[] #[.pointer (some ⟨w.heap.size, 0, none⟩)]) ∧ w' = w.alloc (.cells #[.string s] 9) := by
  refine callsIn_of_wp Try.func25 rfl h25 ?_ hro
  simp only [Try.ntmps25, List.size_toArray, List.length_cons, List.length_nil, Nat.reduceAdd, Nat.reduceSub, Array.replicate_succ, Array.replicate_zero, List.push_toArray, List.append_toArray, List.nil_append, List.cons_append]
  gi_wp2
  go_ret
  exact ⟨rfl, rfl⟩
theorem lines_stops (F : Fence) (n : Nat) (h44 : F.fn 44) (hro : F.round = none) (hn : 1 ≤ n) (Bs : Nat) (s : ByteArray) (hs : s.size ≤ 140737488351232) (w : World) (hBs : Bs < w.heap.size)
    (hc : w.cell? ⟨Bs, 0, none⟩ = some (.string s)) :
    SeqStopsK F n Try.prog 44 #[.pointer (some ⟨Bs, 0, none⟩)] (fun x : Nat × ByteArray => #[Value.int .i64 (x.1 : Int), Value.string x.2]) (KB Bs) (fun ys => ys = prs (linesOf s))
      (fun pre => Told s pre) (s.size + 1) w := fun l J Jx W hW _ _ hY h0 =>
  lines1_in F n h44 hro hn l Bs s hs J Jx hY W ((hW.cell (p := ⟨Bs, 0, none⟩) hBs).trans hc) h0
/-- The pairs are those of the lines, number by number. -/
theorem prs_prefix {s : ByteArray} {pre : List (Nat × ByteArray)} (h : Told s pre) : ∃ r, prs (linesOf s) = pre ++ r := by
  obtain ⟨i, hi, rfl⟩ := h
  obtain ⟨d, hd⟩ : ∃ d, s.size + 1 = i + d := ⟨s.size + 1 - i, by omega⟩
  unfold linesOf
  rw [hd]
  clear hi hd
  induction d with
  | zero => exact ⟨[], by simp⟩
  | succ d ih =>
    obtain ⟨r, hr⟩ := ih
    rw [← Nat.add_assoc, scan_succ]
    by_cases h : In s (scan s (i + d)).1 (i + d)
    · rw [step_in h]; exact ⟨r, hr⟩
    · rw [step_out h, prs_snoc, hr]; exact ⟨r ++ [((scan s (i + d)).2.length, s.extract (scan s (i + d)).1 (i + d))], by simp⟩
end Go.Proofs.Ytebjdjdlpmplpaa.Ln
