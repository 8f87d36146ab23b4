/- What num.Each answers, at every argument within the machine's bounds. -/
import Derived.RangeFuncNested
import Derived.RangeFuncBound
import Derived.RangeFuncCalls
import Derived.RangeFuncLeaves
import Derived.RangeFuncBox
import Derived.Shelf.Abstract
import Derived.Shelf.RegionOpen
import Derived.WalkKit
import Derived.OwnWalkIn
import Derived.TacticsInMore
import Derived.LoopNIn
import Derived.LoopIn
import Derived.WalkLawsBesides
import Derived.Laws.BytesArg
import Derived.Laws.Slices
import Derived.Deep.LoopGhost
import Derived.Maps.AppendAt
import Derived.Test.YtdhfnfoimbijmaaProg
namespace Go.Proofs.Ytdhfnfoimbijmaa.Num
open Go.RowKit Go.Shelf

theorem hid {p : Prop} (h : p) : Hid p := h


attribute [local go_sem] Oper.semAt_some
/-- The bytes of a string. -/
def bts (s : ByteArray) : List Int := s.data.toList.map fun b => (b.toNat : Int)
/-- A number out of its bytes, the lowest first. -/
def wval : List Int → Int
  | [] => 0
  | b :: t => b + 256 * wval t
def chunk (l : List Int) (n : Nat) : List Int := (l.drop (8 * n)).take 8
def word (l : List Int) (n : Nat) : Int := wval (chunk l n)

def upto {α : Type} (f : Nat → α) (k : Nat) : List α := (List.range k).map f
theorem upto_succ {α : Type} (f : Nat → α) (k : Nat) : upto f (k + 1) = upto f k ++ [f k] := by simp [upto, List.range_succ]
theorem upto_length {α : Type} (f : Nat → α) (k : Nat) : (upto f k).length = k := by simp [upto]

theorem bts_length (s : ByteArray) : (bts s).length = s.size := by unfold bts; rw [List.length_map, Array.length_toList]; rfl
theorem bts_get (s : ByteArray) (i : Nat) (h : i < s.size) : (bts s)[i]'(by rw [bts_length]; exact h) = ((s[i]'h).toNat : Int) := by
  unfold bts
  rw [List.getElem_map, Array.getElem_toList]
  rfl
/-- Inside the loop over a word's bytes. -/
def Inner (c : Nat) (f : Nat → Int) (a j : Value) : Prop := ∃ m : Nat, m ≤ c ∧ j = .int .i64 ((m : Int) - 1) ∧ a = .int .u64 (f m)
def byteB (l : List Int) : Prop := ∀ x ∈ l, 0 ≤ x ∧ x < 256
theorem bts_byte (s : ByteArray) : byteB (bts s) := by
  intro x hx
  simp only [bts, List.mem_map] at hx
  obtain ⟨b, _, rfl⟩ := hx
  have := b.toNat_lt
  omega
theorem byteB.take {l : List Int} (h : byteB l) (n : Nat) : byteB (l.take n) := fun x hx => h x (List.mem_of_mem_take hx)
theorem byteB.drop {l : List Int} (h : byteB l) (n : Nat) : byteB (l.drop n) := fun x hx => h x (List.mem_of_mem_drop hx)
theorem wval_range (l : List Int) (h : byteB l) : 0 ≤ wval l ∧ wval l < 256 ^ l.length := by
  induction l with
  | nil => simp [wval]
  | cons b t ih =>
    have h1 := h b (by simp)
    have h2 := ih (fun x hx => h x (by simp [hx]))
    simp only [wval, List.length_cons]
    have : (256 : Int) ^ (t.length + 1) = 256 ^ t.length * 256 := by rw [Int.pow_succ]
    omega
theorem pow256_le (m : Nat) (h : m ≤ 7) : (256 : Int) ^ m ≤ 72057594037927936 := by
  have : m = 0 ∨ m = 1 ∨ m = 2 ∨ m = 3 ∨ m = 4 ∨ m = 5 ∨ m = 6 ∨ m = 7 := by omega
  rcases this with rfl | rfl | rfl | rfl | rfl | rfl | rfl | rfl <;> decide
theorem or_join (i : Nat) (x y : Int) (hx0 : 0 ≤ x) (hx : x < 18446744073709551616) (hxi : x.toNat % 2 ^ i = 0) (hy0 : 0 ≤ y) (hy : y.toNat < 2 ^ i) (hy2 : y < 18446744073709551616) : bits .or .u64 x y = x + y := by
  rw [u64_or x y hx0 hx hy0 hy2, nat_join i _ _ hxi hy]
  omega
theorem chunk_length (s : ByteArray) (k : Nat) : (chunk (bts s) k).length = min 8 (s.size - 8 * k) := by simp [chunk, bts_length]
/-- One more byte, ahead of those that have come. -/
theorem wval_step (s : ByteArray) (k m : Nat) (h1 : 1 ≤ m) (hm : m ≤ 8) (hlt : k * 8 + (m - 1) < s.size) :
    bits .or .u64 (IntKind.u64.wrap (wval ((chunk (bts s) k).drop m) * 256)) (IntKind.u64.wrap ((s[k * 8 + (m - 1)]'hlt).toNat : Int)) = wval ((chunk (bts s) k).drop (m - 1)) := by
  have hl := chunk_length s k
  have hb : byteB (chunk (bts s) k) := ((bts_byte s).drop _).take _
  have hr := wval_range _ (hb.drop m)
  have hp := pow256_le ((chunk (bts s) k).drop m).length (by simp [hl]; omega)
  have hbyte : ((s[k * 8 + (m - 1)]'hlt).toNat : Int) < 256 := by have := (s[k * 8 + (m - 1)]'hlt).toNat_lt; omega
  have hc : (chunk (bts s) k).drop (m - 1) = ((s[k * 8 + (m - 1)]'hlt).toNat : Int) :: (chunk (bts s) k).drop m := by
    rw [List.drop_eq_getElem_cons (by rw [hl]; omega)]
    congr 1
    · simp only [chunk, List.getElem_take, List.getElem_drop]
      rw [← bts_get s _ hlt]
      congr 1
      omega
    · congr 1; omega
  rw [hc, wval, IntKind.wrap_u64, IntKind.wrap_u64, or_join 8]
  all_goals omega
/-- Block B lies as it lay. -/
def KB (B : Nat) (W W' : World) : Prop := W'.heap[B]? = W.heap[B]?
theorem KB.trans {B : Nat} {X Y Z : World} (h : KB B X Y) (k : KB B Y Z) : KB B X Z := Eq.trans k h
theorem KB.cell {B o : Nat} {X Y : World} (h : KB B X Y) {v : Value} (hc : X.cell? ⟨B, o, none⟩ = some v) : Y.cell? ⟨B, o, none⟩ = some v := (World.cell?_of_block (w := X) (w' := Y) (a := ⟨B, o, none⟩) h).trans hc
theorem KB.of_grownBy {B : Nat} {W W' : World} {row : Option Nat} (hg : W.grownBy W' row) (hB : B < W.heap.size) (hr : some B ≠ row) : KB B W W' := hg.block B hB hr
theorem kb_b {B : Nat} {w : World} (hB : B < w.heap.size) (W : World) (l : Nat) (o o' : Obj) (hl : w.heap.size ≤ l) (h : W.heap[l]? = some o) (_ : o.isCells = false) (_ : o.isWalk = false) : KB B W (W.putObj l o') :=
  KB.of_grownBy (grownBy_putObj' W l o') (by have := (Array.getElem?_eq_some_iff.1 h).1; omega) (fun e => by cases e; omega)

set_option maxRecDepth 100000 in
set_option maxHeartbeats 2000000 in
theorem each1_in (F : Fence) (n : Nat) (h56 : F.fn 91) (hro : F.round = none) (hn : 1 ≤ n) (l Bs : Nat) (s : ByteArray) (hs : s.size ≤ 140737488351232) (J Jx : List (Nat × Int) → World → Prop)
    (hY : ∀ pre x W, J pre W → pre.length < (s.size + 7) / 8 → YieldAt F (n - 1) Try.prog l #[.int .i64 (x.1 : Int), .int .u64 x.2] W fun e W' =>
      (e = .returned (.bool true) ∧ J (pre ++ [x]) W' ∧ KB Bs W W') ∨ (e = .returned (.bool false) ∧ Jx (pre ++ [x]) W'))
    (W : World) (hBs : W.cell? ⟨Bs, 0, none⟩ = some (.string s)) (h0 : J [] W) :
    CallsIn F n Try.prog 91 #[.func (.yield l) #[] #[], .pointer (some ⟨Bs, 0, none⟩)] W fun e W' => (∃ v, e = .returned v) ∧
      ((∃ ys, ys = upto (fun j => (j, word (bts s) j)) ((s.size + 7) / 8) ∧ J ys W') ∨ (∃ pre, (∃ k, k ≤ (s.size + 7) / 8 ∧ pre = upto (fun j => (j, word (bts s) j)) k) ∧ Jx pre W')) := by
  refine callsIn_of_wp Try.func91 rfl h56 ?_ hro
  simp only [Try.ntmps91, List.size_toArray, List.length_cons, List.length_nil, Nat.reduceAdd, Nat.reduceSub, Array.replicate_succ, Array.replicate_zero, List.push_toArray, List.append_toArray, List.nil_append, List.cons_append]
  gi_wp2
  gi_loopw [3] (fun i wr => ∃ k : Nat, k ≤ (s.size + 7) / 8 ∧ i = .int .i64 k ∧ J (upto (fun j => (j, word (bts s) j)) k) wr ∧ KB Bs W wr)
    (fun i _ => s.size - (intOf i).toNat)
  case atStart => exact ⟨0, Nat.zero_le _, rfl, h0, rfl⟩
  case round =>
    obtain ⟨k, hk, rfl, hJs, hnx⟩ := hrel
    have hcx : wr.cell? ⟨Bs, 0, none⟩ = some (.string s) := hnx.cell hBs
    by_cases hlt : k * 8 < s.size
    · obtain ⟨fn, tmps, assign, body, hy, hR⟩ := hY _ (k, word (bts s) k) wr hJs (by rw [upto_length]; omega)
      simp only [word] at hy
      have hd : decide ((k : Int) * 8 < (s.size : Int)) = true := decide_eq_true (by omega)
      by_cases h8 : s.size - k * 8 < 8
      · have h8' : (s.size : Int) - k * 8 < 8 := by omega
        have hcap : s.size - k * 8 = (chunk (bts s) k).length := by rw [chunk_length]; omega
        have HW0 : Hid (wval ((chunk (bts s) k).drop (s.size - k * 8)) = 0) := by rw [hcap, List.drop_length]; rfl
        clear hcap
        gi_wp2_with fail
        gi_loop [4, 5] (Inner (s.size - k * 8) (fun m => wval ((chunk (bts s) k).drop m))) (fun _ j => (intOf j + 1).toNat)
        case atStart => exact ⟨s.size - k * 8, Nat.le_refl _, by congr 1; omega, congrArg (Value.int .u64) HW0.out.symm⟩
        case round =>
          obtain ⟨m, hm, rfl, rfl⟩ := hrel
          by_cases hm0 : m = 0
          · subst hm0
            gi_wp2
            refine hR.mono ?_
            rintro e W3 (⟨rfl, hJ3, hk3⟩ | ⟨rfl, hJx3⟩)
            · gi_wp2
              go_roundw
              case rel => exact ⟨k + 1, by omega, by simp, by rw [upto_succ]; exact hJ3, hnx.trans hk3⟩
              case measure => simp [intOf]; omega
            · gi_wp2
              refine bodyPost_ret (results_none rfl _ _ _) rfl ?_
              exact ⟨⟨_, rfl⟩, .inr ⟨_, ⟨k + 1, by omega, (upto_succ _ _).symm⟩, hJx3⟩⟩
          · have HS := wval_step s k m (by omega) (by omega) (by omega)
            have HS' := hid HS
            clear HS
            gi_wp2_with fail
            go_round
            case rel => exact ⟨m - 1, by omega, by congr 1; omega, congrArg (Value.int .u64) HS'.out⟩
            case measure => simp [intOf]; omega
      · have h8' : 8 ≤ (s.size : Int) - k * 8 := by omega
        have hcap : 8 = (chunk (bts s) k).length := by rw [chunk_length]; omega
        have HW0 : Hid (wval ((chunk (bts s) k).drop (8)) = 0) := by rw [hcap, List.drop_length]; rfl
        clear hcap
        gi_wp2_with fail
        gi_loop [4, 5] (Inner (8) (fun m => wval ((chunk (bts s) k).drop m))) (fun _ j => (intOf j + 1).toNat)
        case atStart => exact ⟨8, Nat.le_refl _, rfl, congrArg (Value.int .u64) HW0.out.symm⟩
        case round =>
          obtain ⟨m, hm, rfl, rfl⟩ := hrel
          by_cases hm0 : m = 0
          · subst hm0
            gi_wp2
            refine hR.mono ?_
            rintro e W3 (⟨rfl, hJ3, hk3⟩ | ⟨rfl, hJx3⟩)
            · gi_wp2
              go_roundw
              case rel => exact ⟨k + 1, by omega, by simp, by rw [upto_succ]; exact hJ3, hnx.trans hk3⟩
              case measure => simp [intOf]; omega
            · gi_wp2
              refine bodyPost_ret (results_none rfl _ _ _) rfl ?_
              exact ⟨⟨_, rfl⟩, .inr ⟨_, ⟨k + 1, by omega, (upto_succ _ _).symm⟩, hJx3⟩⟩
          · have HS := wval_step s k m (by omega) (by omega) (by omega)
            have HS' := hid HS
            clear HS
            gi_wp2_with fail
            go_round
            case rel => exact ⟨m - 1, by omega, by congr 1; omega, congrArg (Value.int .u64) HS'.out⟩
            case measure => simp [intOf]; omega
    · obtain rfl : k = (s.size + 7) / 8 := by omega
      gi_wp2
      go_end0
      exact ⟨⟨_, rfl⟩, .inl ⟨_, rfl, hJs⟩⟩

set_option maxHeartbeats 1000000 in
/-- num.Each: the string is boxed; the function value captures the box. -/
theorem each_in (F : Fence) (n : Nat) (h46 : F.fn 63) (hro : F.round = none) (s : ByteArray) (w : World) :
    CallsIn F n Try.prog 63 #[.string s] w fun e w' => e = .returned (.func (.func 91) #[] #[.pointer (some ⟨w.heap.size, 0, none⟩)]) ∧ w' = w.alloc (.cells #[.string s] 9) := by
  refine callsIn_of_wp Try.func63 rfl h46 ?_ hro
  simp only [Try.ntmps63, List.size_toArray, List.length_cons, List.length_nil, Nat.reduceAdd, Nat.reduceSub, Array.replicate_succ, Array.replicate_zero, List.push_toArray, List.append_toArray, List.nil_append, List.cons_append]
  gi_wp2
  go_ret
  exact ⟨rfl, rfl⟩

/-- The words of a string, each with its number. -/
def eachL (s : ByteArray) : List (Nat × Int) := upto (fun j => (j, word (bts s) j)) ((s.size + 7) / 8)

theorem each_stops (F : Fence) (n : Nat) (h56 : F.fn 91) (hro : F.round = none) (hn : 1 ≤ n) (Bs : Nat) (s : ByteArray) (hs : s.size ≤ 140737488351232) (w : World) (hBs : Bs < w.heap.size)
    (hc : w.cell? ⟨Bs, 0, none⟩ = some (.string s)) :
    SeqStopsK F n Try.prog 91 #[.pointer (some ⟨Bs, 0, none⟩)] (fun x : Nat × Int => #[Value.int .i64 (x.1 : Int), Value.int .u64 x.2]) (KB Bs) (fun ys => ys = eachL s)
      (fun pre => ∃ k, k ≤ (s.size + 7) / 8 ∧ pre = upto (fun j => (j, word (bts s) j)) k) ((s.size + 7) / 8) w := fun l J Jx W hW _ _ hY h0 =>
  each1_in F n h56 hro hn l Bs s hs J Jx hY W ((hW.cell (p := ⟨Bs, 0, none⟩) hBs).trans hc) h0

/-- A word's number, or 0 where there is none. -/
def cj (s : ByteArray) (j : Nat) : Nat := if j < (s.size + 7) / 8 then j else 0
theorem cj_lt (s : ByteArray) (j : Nat) (h : j < (s.size + 7) / 8) : cj s j = j := if_pos h
theorem cj_in (s : ByteArray) (j : Nat) (h : 0 < (s.size + 7) / 8) : cj s j < (s.size + 7) / 8 := by
  unfold cj; split <;> omega
set_option maxRecDepth 100000 in
set_option maxHeartbeats 2000000 in
theorem each1_at (F : Fence) (n : Nat) (h56 : F.fn 91) (hro : F.round = none) (hn : 1 ≤ n) (l Bs : Nat) (s : ByteArray) (hs : s.size ≤ 140737488351232) (J Jx : List Nat → World → Prop)
    (hY : ∀ pre x W, J pre W → pre.length < (s.size + 7) / 8 → YieldAt F (n - 1) Try.prog l #[.int .i64 ((cj s x : Nat) : Int), .int .u64 (word (bts s) (cj s x))] W fun e W' =>
      (e = .returned (.bool true) ∧ J (pre ++ [x]) W' ∧ KB Bs W W') ∨ (e = .returned (.bool false) ∧ Jx (pre ++ [x]) W'))
    (W : World) (hBs : W.cell? ⟨Bs, 0, none⟩ = some (.string s)) (h0 : J [] W) :
    CallsIn F n Try.prog 91 #[.func (.yield l) #[] #[], .pointer (some ⟨Bs, 0, none⟩)] W fun e W' => (∃ v, e = .returned v) ∧
      ((∃ ys, ys = List.range ((s.size + 7) / 8) ∧ J ys W') ∨ (∃ pre, (∃ k, k ≤ (s.size + 7) / 8 ∧ pre = List.range k) ∧ Jx pre W')) := by
  refine callsIn_of_wp Try.func91 rfl h56 ?_ hro
  simp only [Try.ntmps91, List.size_toArray, List.length_cons, List.length_nil, Nat.reduceAdd, Nat.reduceSub, Array.replicate_succ, Array.replicate_zero, List.push_toArray, List.append_toArray, List.nil_append, List.cons_append]
  gi_wp2
  gi_loopw [3] (fun i wr => ∃ k : Nat, k ≤ (s.size + 7) / 8 ∧ i = .int .i64 k ∧ J (List.range k) wr ∧ KB Bs W wr)
    (fun i _ => s.size - (intOf i).toNat)
  case atStart => exact ⟨0, Nat.zero_le _, rfl, h0, rfl⟩
  case round =>
    obtain ⟨k, hk, rfl, hJs, hnx⟩ := hrel
    have hcx : wr.cell? ⟨Bs, 0, none⟩ = some (.string s) := hnx.cell hBs
    by_cases hlt : k * 8 < s.size
    · obtain ⟨fn, tmps, assign, body, hy, hR⟩ := hY _ k wr hJs (by rw [List.length_range]; omega)
      rw [cj_lt s k (by omega)] at hy
      simp only [word] at hy
      have hd : decide ((k : Int) * 8 < (s.size : Int)) = true := decide_eq_true (by omega)
      by_cases h8 : s.size - k * 8 < 8
      · have h8' : (s.size : Int) - k * 8 < 8 := by omega
        have hcap : s.size - k * 8 = (chunk (bts s) k).length := by rw [chunk_length]; omega
        have HW0 : Hid (wval ((chunk (bts s) k).drop (s.size - k * 8)) = 0) := by rw [hcap, List.drop_length]; rfl
        clear hcap
        gi_wp2_with fail
        gi_loop [4, 5] (Inner (s.size - k * 8) (fun m => wval ((chunk (bts s) k).drop m))) (fun _ j => (intOf j + 1).toNat)
        case atStart => exact ⟨s.size - k * 8, Nat.le_refl _, by congr 1; omega, congrArg (Value.int .u64) HW0.out.symm⟩
        case round =>
          obtain ⟨m, hm, rfl, rfl⟩ := hrel
          by_cases hm0 : m = 0
          · subst hm0
            gi_wp2
            refine hR.mono ?_
            rintro e W3 (⟨rfl, hJ3, hk3⟩ | ⟨rfl, hJx3⟩)
            · gi_wp2
              go_roundw
              case rel => exact ⟨k + 1, by omega, by simp, by rw [List.range_succ]; exact hJ3, hnx.trans hk3⟩
              case measure => simp [intOf]; omega
            · gi_wp2
              refine bodyPost_ret (results_none rfl _ _ _) rfl ?_
              exact ⟨⟨_, rfl⟩, .inr ⟨_, ⟨k + 1, by omega, List.range_succ.symm⟩, hJx3⟩⟩
          · have HS := wval_step s k m (by omega) (by omega) (by omega)
            have HS' := hid HS
            clear HS
            gi_wp2_with fail
            go_round
            case rel => exact ⟨m - 1, by omega, by congr 1; omega, congrArg (Value.int .u64) HS'.out⟩
            case measure => simp [intOf]; omega
      · have h8' : 8 ≤ (s.size : Int) - k * 8 := by omega
        have hcap : 8 = (chunk (bts s) k).length := by rw [chunk_length]; omega
        have HW0 : Hid (wval ((chunk (bts s) k).drop (8)) = 0) := by rw [hcap, List.drop_length]; rfl
        clear hcap
        gi_wp2_with fail
        gi_loop [4, 5] (Inner (8) (fun m => wval ((chunk (bts s) k).drop m))) (fun _ j => (intOf j + 1).toNat)
        case atStart => exact ⟨8, Nat.le_refl _, rfl, congrArg (Value.int .u64) HW0.out.symm⟩
        case round =>
          obtain ⟨m, hm, rfl, rfl⟩ := hrel
          by_cases hm0 : m = 0
          · subst hm0
            gi_wp2
            refine hR.mono ?_
            rintro e W3 (⟨rfl, hJ3, hk3⟩ | ⟨rfl, hJx3⟩)
            · gi_wp2
              go_roundw
              case rel => exact ⟨k + 1, by omega, by simp, by rw [List.range_succ]; exact hJ3, hnx.trans hk3⟩
              case measure => simp [intOf]; omega
            · gi_wp2
              refine bodyPost_ret (results_none rfl _ _ _) rfl ?_
              exact ⟨⟨_, rfl⟩, .inr ⟨_, ⟨k + 1, by omega, List.range_succ.symm⟩, hJx3⟩⟩
          · have HS := wval_step s k m (by omega) (by omega) (by omega)
            have HS' := hid HS
            clear HS
            gi_wp2_with fail
            go_round
            case rel => exact ⟨m - 1, by omega, by congr 1; omega, congrArg (Value.int .u64) HS'.out⟩
            case measure => simp [intOf]; omega
    · obtain rfl : k = (s.size + 7) / 8 := by omega
      gi_wp2
      go_end0
      exact ⟨⟨_, rfl⟩, .inl ⟨_, rfl, hJs⟩⟩

theorem each_at (F : Fence) (n : Nat) (h56 : F.fn 91) (hro : F.round = none) (hn : 1 ≤ n) (Bs : Nat) (s : ByteArray) (hs : s.size ≤ 140737488351232) (w : World) (hBs : Bs < w.heap.size)
    (hc : w.cell? ⟨Bs, 0, none⟩ = some (.string s)) :
    SeqStopsK F n Try.prog 91 #[.pointer (some ⟨Bs, 0, none⟩)] (fun x : Nat => #[Value.int .i64 ((cj s x : Nat) : Int), Value.int .u64 (word (bts s) (cj s x))]) (KB Bs) (fun ys => ys = List.range ((s.size + 7) / 8))
      (fun pre => ∃ k, k ≤ (s.size + 7) / 8 ∧ pre = List.range k) ((s.size + 7) / 8) w := fun l J Jx W hW _ _ hY h0 =>
  each1_at F n h56 hro hn l Bs s hs J Jx hY W ((hW.cell (p := ⟨Bs, 0, none⟩) hBs).trans hc) h0
end Go.Proofs.Ytdhfnfoimbijmaa.Num
