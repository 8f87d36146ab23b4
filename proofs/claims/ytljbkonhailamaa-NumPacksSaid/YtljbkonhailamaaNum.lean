/- What num.Text, num.Each and num.Pack answer, at every argument within the machine's bounds. -/
import Derived.RangeFuncNested
import Derived.RangeFuncBound
import Derived.RangeFuncCalls
import Derived.RangeFuncLeaves
import Derived.RangeFuncBox
import Derived.Shelf.Abstract
import Derived.Shelf.RegionOpen
import Derived.WalkKit
import Derived.OwnWalkIn
import Derived.TacticsInMore
import Derived.LoopNIn
import Derived.LoopIn
import Derived.WalkLawsBesides
import Derived.Laws.BytesArg
import Derived.Laws.Slices
import Derived.Deep.LoopGhost
import Derived.Maps.AppendAt
import Derived.Test.YtljbkonhailamaaProg
namespace Go.Proofs.Ytljbkonhailamaa.Num
open Go.RowKit Go.Shelf

theorem hid {p : Prop} (h : p) : Hid p := h


/-- The digits of a number, as bytes. -/
def digs (u : Nat) : List Int := if u < 10 then [48 + (u : Int)] else digs (u / 10) ++ [48 + ((u % 10 : Nat) : Int)]
termination_by u
decreasing_by omega

/-- A number in digits, '-' ahead of it if it is below 0. -/
def textOf (n : Int) : List Int := if n < 0 then 45 :: digs n.natAbs else digs n.natAbs

theorem digs_len (m : Nat) : ∀ u, u < 10 ^ (m + 1) → (digs u).length ≤ m + 1 := by
  induction m with
  | zero => intro u h; rw [digs, if_pos (by omega)]; simp
  | succ m ih =>
    intro u h
    rw [digs]
    split
    · simp
    · have := ih (u / 10) (by rw [Nat.pow_succ] at h; omega)
      simp; omega

theorem digs_pos (u : Nat) : 1 ≤ (digs u).length := by rw [digs]; split <;> simp

/-- q is left of U, and tl are its last digits. -/
def DD (U q : Nat) (tl : List Int) : Prop := q ≤ U ∧ ((tl = [] ∧ q = U) ∨ (0 < q ∧ digs q ++ tl = digs U))

theorem DD.step {U q : Nat} {tl : List Int} (h : DD U q tl) (hq : q / 10 ≠ 0) : DD U (q / 10) ((48 + ((q % 10 : Nat) : Int)) :: tl) := by
  have e : digs q = digs (q / 10) ++ [48 + ((q % 10 : Nat) : Int)] := by rw [digs, if_neg (by omega)]
  obtain ⟨hl, h⟩ := h
  refine ⟨by omega, ?_⟩
  rcases h with ⟨rfl, rfl⟩ | ⟨h0, h⟩
  · exact .inr ⟨by omega, by rw [e]⟩
  · exact .inr ⟨by omega, by rw [← h, e]; simp⟩

theorem DD.last {U q : Nat} {tl : List Int} (h : DD U q tl) (hq : q / 10 = 0) : (48 + ((q % 10 : Nat) : Int)) :: tl = digs U := by
  have e : digs q = [48 + ((q % 10 : Nat) : Int)] := by rw [digs, if_pos (by omega)]; congr 2; omega
  obtain ⟨hl, h⟩ := h
  rcases h with ⟨rfl, rfl⟩ | ⟨h0, h⟩
  · rw [e]
  · rw [← h, e]; simp

theorem DD.len {U q : Nat} {tl : List Int} (h : DD U q tl) (hU : U < 10 ^ 19) : tl.length ≤ 18 := by
  have hl := digs_len 18 U hU
  rcases h.2 with ⟨rfl, rfl⟩ | ⟨h0, h⟩
  · simp
  · rw [← h] at hl
    have := digs_pos q
    simp at hl; omega

/-- A block of bytes. -/
def Blk (W : World) (B : Nat) (xs : List Int) : Prop := ∀ j, j < xs.length → W.cell? ⟨B, j, none⟩ = some (.int .u8 (xs.getD j 0)) ∧ W.frozen? ⟨B, j, none⟩ = false

theorem Blk.set {W : World} {B : Nat} {a : Nat} {tl : List Int} (h : Blk W B (List.replicate (a + 1) 0 ++ tl)) (v : Int) : Blk (W.setCell ⟨B, a, none⟩ (.int .u8 v)) B (List.replicate a 0 ++ v :: tl) := by
  intro j hj
  have hj' : j < (List.replicate (a + 1) (0 : Int) ++ tl).length := by simp at hj ⊢; omega
  obtain ⟨h1, h2⟩ := h j hj'
  refine ⟨?_, by rw [World.frozen?_setCell]; exact h2⟩
  by_cases e : j = a
  · subst e
    rw [World.cell?_setCell_same _ _ _ h1]
    congr 2
    simp [List.getD]
  · rw [World.cell?_setCell_other _ _ _ _ (fun h => e (by injection h with _ h _; exact h.symm)), h1]
    congr 2
    simp only [List.getD, List.getElem?_append, List.getElem?_replicate, List.length_replicate]
    by_cases hlt : j < a
    · rw [if_pos hlt, if_pos hlt, if_pos (by omega), if_pos (by omega)]
    · obtain ⟨d, rfl⟩ : ∃ d, j = a + 1 + d := ⟨j - a - 1, by omega⟩
      rw [if_neg hlt, if_neg (by omega)]
      rw [show a + 1 + d - (a + 1) = d from by omega, show a + 1 + d - a = d + 1 from by omega]
      simp

/-- The slice of the block from a on, as a string. -/
theorem Blk.text {W : World} {B a n : Nat} {tl : List Int} (h : Blk W B (List.replicate a 0 ++ tl)) (hn : tl.length = n) :
    (convert 57 9 (.slice (some ⟨B, a, none⟩) n n)).run Try.prog W = .ok (.string (strOfNums tl)) W := by
  refine run_convert_bytes_arg W 57 5 (by kernel_rfl) (by kernel_rfl) B a n n tl hn (fun i hi => ?_) 9 (by kernel_rfl)
  have := (h (a + i) (by simp; omega)).1
  rw [this]
  congr 2
  simp only [List.getD, List.getElem?_append]
  rw [if_neg (by simp)]
  simp

theorem slice59 (B a : Nat) (ha : a < 20) (W : World) : (Instr.sliceAt 59 (.pointer (some ⟨B, 0, none⟩)) (some (.int .i64 (a : Int))) none none).run Try.prog W = .ok (.slice (some ⟨B, a, none⟩) (20 - a) (20 - a)) W := by
  have hal : Try.prog.arrayLen 59 = 20 := by kernel_rfl
  have hel : Try.prog.elem 59 = 5 := by kernel_rfl
  have hu : Try.prog.underlying 59 = some (.array (Try.prog.arrayLen 59) (Try.prog.elem 59)) := by rw [hal, hel]; kernel_rfl
  rw [run_sliceAt_array_l W 59 ⟨B, 0, none⟩ hu .i64 (a : Int) (by omega) (by rw [hal]; omega), hal, hel]
  have hs : (sizeOf 5).run Try.prog W = .ok 1 W := by kernel_rfl
  rw [hs]
  simp only [slicedAt, Result.andThen, Int.toNat_natCast]
  rw [if_neg (by omega)]
  simp [Addr.add]
  omega

theorem blk_new (w : World) (t : TypeId) : Blk (w.alloc (.cells #[.int .u8 0, .int .u8 0, .int .u8 0, .int .u8 0, .int .u8 0, .int .u8 0, .int .u8 0, .int .u8 0, .int .u8 0, .int .u8 0, .int .u8 0, .int .u8 0, .int .u8 0, .int .u8 0, .int .u8 0, .int .u8 0, .int .u8 0, .int .u8 0, .int .u8 0, .int .u8 0] t)) w.heap.size (List.replicate 20 0 ++ []) := by
  intro j hj
  refine ⟨?_, World.frozen?_alloc_at _ _ _ _ rfl⟩
  rw [World.cell?_alloc_at _ _ _ _ rfl]
  have hj : j < 20 := by simpa using hj
  rw [List.append_nil]
  iterate 20 (rcases j with _ | j; · rfl)
  omega

set_option maxHeartbeats 400000 in
theorem text_pos (n : Int) (w : World) (h1 : n ≤ 9223372036854775807) (hn : 0 ≤ n) :
    Calls Try.prog 53 #[.int .i64 n] w fun e w' => e = .returned (.string (strOfNums (digs n.toNat))) ∧ Below w.heap.size w w' := by
  go_enter Try.func53, Try.ntmps53
  go_wp2_with fail
  go_loopw [3, 5] (fun u at_ wr => ∃ (q a : Nat) (tl : List Int), u = .int .u64 q ∧ at_ = .int .i64 a ∧ a + tl.length = 20 ∧ DD n.toNat q tl ∧ Blk wr w.heap.size (List.replicate a 0 ++ tl) ∧ Below w.heap.size w wr)
    (fun _ at_ _ => (intOf at_).toNat)
  case atStart => 
    exact ⟨n.toNat, 20, [], by rw [Int.toNat_of_nonneg hn], rfl, rfl, ⟨Nat.le_refl _, .inl ⟨rfl, rfl⟩⟩, blk_new _ _, (Below.refl _ _).alloc (Nat.le_refl _) _⟩
  case round =>
    obtain ⟨q, a, tl, rfl, rfl, ha, hD, hB, hbel⟩ := hrel
    have hlen : tl.length ≤ 18 := hD.len (by omega)
    have hq := hD.1
    obtain ⟨b, rfl⟩ : ∃ b, a = b + 1 := ⟨a - 1, by omega⟩
    have hb := hB b (by simp; omega)
    obtain ⟨hb1, hb2⟩ := hb
    have hB' := hB.set (48 + (q : Int) % 10)
    have hcv := hB'.text (n := 20 - b) (by simp; omega)
    have hsl := slice59 w.heap.size b (by omega)
    have hbel' := hbel.setCell (p := ⟨w.heap.size, b, none⟩) (Nat.le_refl _) (.int .u8 (48 + (q : Int) % 10))
    have HD := hid hD
    have HB := hid hB'
    clear hB hD hB'
    go_wp2_with fail
    · go_ret
      have hq0 : q / 10 = 0 := by
        have h : ((q : Int) / 10 == 0) = true := by assumption
        rw [beq_iff_eq] at h
        omega
      have hl := HD.out.last hq0
      rw [show ((q % 10 : Nat) : Int) = (q : Int) % 10 from by omega] at hl
      exact ⟨congrArg (fun l => Ending.returned (.string (strOfNums l))) hl, hbel'⟩
    · go_roundw
      have hq0 : q / 10 ≠ 0 := by
        have h : ((q : Int) / 10 == 0) = false := by assumption
        rw [beq_eq_false_iff_ne] at h
        omega
      have hl := HD.out.step hq0
      rw [show ((q % 10 : Nat) : Int) = (q : Int) % 10 from by omega] at hl
      case rel => exact ⟨q / 10, b, _, by congr 1, rfl, by simp; omega, hl, HB.out, hbel'⟩
      case measure => simp [intOf]
set_option maxHeartbeats 400000 in
theorem text_neg (n : Int) (w : World) (h1 : -9223372036854775808 ≤ n) (hn : n < 0) :
    Calls Try.prog 53 #[.int .i64 n] w fun e w' => e = .returned (.string (strOfNums (45 :: digs (-n).toNat))) ∧ Below w.heap.size w w' := by
  go_enter Try.func53, Try.ntmps53
  go_wp2_with fail
  go_loopw [3, 5] (fun u at_ wr => ∃ (q a : Nat) (tl : List Int), u = .int .u64 q ∧ at_ = .int .i64 a ∧ a + tl.length = 20 ∧ DD (-n).toNat q tl ∧ Blk wr w.heap.size (List.replicate a 0 ++ tl) ∧ Below w.heap.size w wr)
    (fun _ at_ _ => (intOf at_).toNat)
  case atStart =>
    exact ⟨(-n).toNat, 20, [], by congr 1; simp only [IntKind.wrap_u64]; omega, rfl, rfl, ⟨Nat.le_refl _, .inl ⟨rfl, rfl⟩⟩, blk_new _ _, (Below.refl _ _).alloc (Nat.le_refl _) _⟩
  case round =>
    obtain ⟨q, a, tl, rfl, rfl, ha, hD, hB, hbel⟩ := hrel
    have hlen : tl.length ≤ 18 := hD.len (by omega)
    have hq := hD.1
    obtain ⟨c, rfl⟩ : ∃ b, a = b + 1 := ⟨a - 1, by omega⟩
    have hb := hB c (by simp; omega)
    obtain ⟨hb1, hb2⟩ := hb
    have hB' := hB.set (48 + (q : Int) % 10)
    have hc := hB' (c - 1) (by simp; omega)
    obtain ⟨hc1, hc2⟩ := hc
    have hB2 : Blk _ w.heap.size (List.replicate (c - 1) 0 ++ 45 :: _) := Blk.set (a := c - 1) (by rw [show c - 1 + 1 = c from by omega]; exact hB') 45
    have hcv := hB2.text (n := 20 - (c - 1)) (by simp; omega)
    have hsl : ∀ W, (Instr.sliceAt 59 (.pointer (some ⟨w.heap.size, 0, none⟩)) (some (.int .i64 ((c : Int) - 1))) none none).run Try.prog W = .ok (.slice (some ⟨w.heap.size, c - 1, none⟩) (20 - (c - 1)) (20 - (c - 1))) W := by
      have := slice59 w.heap.size (c - 1) (by omega)
      rw [show ((c - 1 : Nat) : Int) = (c : Int) - 1 from by omega] at this
      exact this
    have hbel' := hbel.setCell (p := ⟨w.heap.size, c, none⟩) (Nat.le_refl _) (.int .u8 (48 + (q : Int) % 10))
    have hbel'' := hbel'.setCell (p := ⟨w.heap.size, c - 1, none⟩) (Nat.le_refl _) (.int .u8 45)
    have HD := hid hD
    have HB := hid hB'
    have hc0 : (1 : Int) ≤ c := by omega
    clear hB hD hB' hB2
    go_wp2_with fail
    · go_ret
      have hq0 : q / 10 = 0 := by
        have h : ((q : Int) / 10 == 0) = true := by assumption
        rw [beq_iff_eq] at h
        omega
      have hl := HD.out.last hq0
      rw [show ((q % 10 : Nat) : Int) = (q : Int) % 10 from by omega] at hl
      exact ⟨congrArg (fun l => Ending.returned (.string (strOfNums (45 :: l)))) hl, hbel''⟩
    · go_roundw
      have hq0 : q / 10 ≠ 0 := by
        have h : ((q : Int) / 10 == 0) = false := by assumption
        rw [beq_eq_false_iff_ne] at h
        omega
      have hl := HD.out.step hq0
      rw [show ((q % 10 : Nat) : Int) = (q : Int) % 10 from by omega] at hl
      case rel => exact ⟨q / 10, c, _, by congr 1, rfl, by simp; omega, hl, HB.out, hbel'⟩
      case measure => simp [intOf]

theorem text_any (n : Int) (w : World) (h0 : -9223372036854775808 ≤ n) (h1 : n ≤ 9223372036854775807) :
    Calls Try.prog 53 #[.int .i64 n] w fun e w' => e = .returned (.string (strOfNums (textOf n))) ∧ Below w.heap.size w w' := by
  by_cases hn : n < 0
  · rw [show textOf n = 45 :: digs (-n).toNat from by rw [textOf, if_pos hn]; congr 2; omega]
    exact text_neg n w h0 hn
  · rw [show textOf n = digs n.toNat from by rw [textOf, if_neg hn]; congr 1; omega]
    exact text_pos n w h1 (by omega)

attribute [local go_sem] Oper.semAt_some
/-- The bytes of a string. -/
def bts (s : ByteArray) : List Int := s.data.toList.map fun b => (b.toNat : Int)
/-- A number out of its bytes, the lowest first. -/
def wval : List Int → Int
  | [] => 0
  | b :: t => b + 256 * wval t
def chunk (l : List Int) (n : Nat) : List Int := (l.drop (8 * n)).take 8
def word (l : List Int) (n : Nat) : Int := wval (chunk l n)

def upto {α : Type} (f : Nat → α) (k : Nat) : List α := (List.range k).map f
theorem upto_succ {α : Type} (f : Nat → α) (k : Nat) : upto f (k + 1) = upto f k ++ [f k] := by simp [upto, List.range_succ]
theorem upto_length {α : Type} (f : Nat → α) (k : Nat) : (upto f k).length = k := by simp [upto]

theorem bts_length (s : ByteArray) : (bts s).length = s.size := by unfold bts; rw [List.length_map, Array.length_toList]; rfl
theorem bts_get (s : ByteArray) (i : Nat) (h : i < s.size) : (bts s)[i]'(by rw [bts_length]; exact h) = ((s[i]'h).toNat : Int) := by
  unfold bts
  rw [List.getElem_map, Array.getElem_toList]
  rfl
/-- Inside the loop over a word's bytes. -/
def Inner (c : Nat) (f : Nat → Int) (a j : Value) : Prop := ∃ m : Nat, m ≤ c ∧ j = .int .i64 ((m : Int) - 1) ∧ a = .int .u64 (f m)
def byteB (l : List Int) : Prop := ∀ x ∈ l, 0 ≤ x ∧ x < 256
theorem bts_byte (s : ByteArray) : byteB (bts s) := by
  intro x hx
  simp only [bts, List.mem_map] at hx
  obtain ⟨b, _, rfl⟩ := hx
  have := b.toNat_lt
  omega
theorem byteB.take {l : List Int} (h : byteB l) (n : Nat) : byteB (l.take n) := fun x hx => h x (List.mem_of_mem_take hx)
theorem byteB.drop {l : List Int} (h : byteB l) (n : Nat) : byteB (l.drop n) := fun x hx => h x (List.mem_of_mem_drop hx)
theorem wval_range (l : List Int) (h : byteB l) : 0 ≤ wval l ∧ wval l < 256 ^ l.length := by
  induction l with
  | nil => simp [wval]
  | cons b t ih =>
    have h1 := h b (by simp)
    have h2 := ih (fun x hx => h x (by simp [hx]))
    simp only [wval, List.length_cons]
    have : (256 : Int) ^ (t.length + 1) = 256 ^ t.length * 256 := by rw [Int.pow_succ]
    omega
theorem pow256_le (m : Nat) (h : m ≤ 7) : (256 : Int) ^ m ≤ 72057594037927936 := by
  have : m = 0 ∨ m = 1 ∨ m = 2 ∨ m = 3 ∨ m = 4 ∨ m = 5 ∨ m = 6 ∨ m = 7 := by omega
  rcases this with rfl | rfl | rfl | rfl | rfl | rfl | rfl | rfl <;> decide
theorem or_join (i : Nat) (x y : Int) (hx0 : 0 ≤ x) (hx : x < 18446744073709551616) (hxi : x.toNat % 2 ^ i = 0) (hy0 : 0 ≤ y) (hy : y.toNat < 2 ^ i) (hy2 : y < 18446744073709551616) : bits .or .u64 x y = x + y := by
  rw [u64_or x y hx0 hx hy0 hy2, nat_join i _ _ hxi hy]
  omega
theorem chunk_length (s : ByteArray) (k : Nat) : (chunk (bts s) k).length = min 8 (s.size - 8 * k) := by simp [chunk, bts_length]
/-- One more byte, ahead of those that have come. -/
theorem wval_step (s : ByteArray) (k m : Nat) (h1 : 1 ≤ m) (hm : m ≤ 8) (hlt : k * 8 + (m - 1) < s.size) :
    bits .or .u64 (IntKind.u64.wrap (wval ((chunk (bts s) k).drop m) * 256)) (IntKind.u64.wrap ((s[k * 8 + (m - 1)]'hlt).toNat : Int)) = wval ((chunk (bts s) k).drop (m - 1)) := by
  have hl := chunk_length s k
  have hb : byteB (chunk (bts s) k) := ((bts_byte s).drop _).take _
  have hr := wval_range _ (hb.drop m)
  have hp := pow256_le ((chunk (bts s) k).drop m).length (by simp [hl]; omega)
  have hbyte : ((s[k * 8 + (m - 1)]'hlt).toNat : Int) < 256 := by have := (s[k * 8 + (m - 1)]'hlt).toNat_lt; omega
  have hc : (chunk (bts s) k).drop (m - 1) = ((s[k * 8 + (m - 1)]'hlt).toNat : Int) :: (chunk (bts s) k).drop m := by
    rw [List.drop_eq_getElem_cons (by rw [hl]; omega)]
    congr 1
    · simp only [chunk, List.getElem_take, List.getElem_drop]
      rw [← bts_get s _ hlt]
      congr 1
      omega
    · congr 1; omega
  rw [hc, wval, IntKind.wrap_u64, IntKind.wrap_u64, or_join 8]
  all_goals omega
/-- Block B lies as it lay. -/
def KB (B : Nat) (W W' : World) : Prop := W'.heap[B]? = W.heap[B]?
theorem KB.trans {B : Nat} {X Y Z : World} (h : KB B X Y) (k : KB B Y Z) : KB B X Z := Eq.trans k h
theorem KB.cell {B o : Nat} {X Y : World} (h : KB B X Y) {v : Value} (hc : X.cell? ⟨B, o, none⟩ = some v) : Y.cell? ⟨B, o, none⟩ = some v := (World.cell?_of_block (w := X) (w' := Y) (a := ⟨B, o, none⟩) h).trans hc
theorem KB.of_grownBy {B : Nat} {W W' : World} {row : Option Nat} (hg : W.grownBy W' row) (hB : B < W.heap.size) (hr : some B ≠ row) : KB B W W' := hg.block B hB hr
theorem kb_b {B : Nat} {w : World} (hB : B < w.heap.size) (W : World) (l : Nat) (o o' : Obj) (hl : w.heap.size ≤ l) (h : W.heap[l]? = some o) (_ : o.isCells = false) (_ : o.isWalk = false) : KB B W (W.putObj l o') :=
  KB.of_grownBy (grownBy_putObj' W l o') (by have := (Array.getElem?_eq_some_iff.1 h).1; omega) (fun e => by cases e; omega)

set_option maxRecDepth 100000 in
set_option maxHeartbeats 2000000 in
theorem each1_in (F : Fence) (n : Nat) (h56 : F.fn 56) (hro : F.round = none) (hn : 1 ≤ n) (l Bs : Nat) (s : ByteArray) (hs : s.size ≤ 140737488351232) (J Jx : List (Nat × Int) → World → Prop)
    (hY : ∀ pre x W, J pre W → pre.length < (s.size + 7) / 8 → YieldAt F (n - 1) Try.prog l #[.int .i64 (x.1 : Int), .int .u64 x.2] W fun e W' =>
      (e = .returned (.bool true) ∧ J (pre ++ [x]) W' ∧ KB Bs W W') ∨ (e = .returned (.bool false) ∧ Jx (pre ++ [x]) W'))
    (W : World) (hBs : W.cell? ⟨Bs, 0, none⟩ = some (.string s)) (h0 : J [] W) :
    CallsIn F n Try.prog 56 #[.func (.yield l) #[] #[], .pointer (some ⟨Bs, 0, none⟩)] W fun e W' => (∃ v, e = .returned v) ∧
      ((∃ ys, ys = upto (fun j => (j, word (bts s) j)) ((s.size + 7) / 8) ∧ J ys W') ∨ (∃ pre, (∃ k, k ≤ (s.size + 7) / 8 ∧ pre = upto (fun j => (j, word (bts s) j)) k) ∧ Jx pre W')) := by
  refine callsIn_of_wp Try.func56 rfl h56 ?_ hro
  simp only [Try.ntmps56, List.size_toArray, List.length_cons, List.length_nil, Nat.reduceAdd, Nat.reduceSub, Array.replicate_succ, Array.replicate_zero, List.push_toArray, List.append_toArray, List.nil_append, List.cons_append]
  gi_wp2
  gi_loopw [3] (fun i wr => ∃ k : Nat, k ≤ (s.size + 7) / 8 ∧ i = .int .i64 k ∧ J (upto (fun j => (j, word (bts s) j)) k) wr ∧ KB Bs W wr)
    (fun i _ => s.size - (intOf i).toNat)
  case atStart => exact ⟨0, Nat.zero_le _, rfl, h0, rfl⟩
  case round =>
    obtain ⟨k, hk, rfl, hJs, hnx⟩ := hrel
    have hcx : wr.cell? ⟨Bs, 0, none⟩ = some (.string s) := hnx.cell hBs
    by_cases hlt : k * 8 < s.size
    · obtain ⟨fn, tmps, assign, body, hy, hR⟩ := hY _ (k, word (bts s) k) wr hJs (by rw [upto_length]; omega)
      simp only [word] at hy
      have hd : decide ((k : Int) * 8 < (s.size : Int)) = true := decide_eq_true (by omega)
      by_cases h8 : s.size - k * 8 < 8
      · have h8' : (s.size : Int) - k * 8 < 8 := by omega
        have hcap : s.size - k * 8 = (chunk (bts s) k).length := by rw [chunk_length]; omega
        have HW0 : Hid (wval ((chunk (bts s) k).drop (s.size - k * 8)) = 0) := by rw [hcap, List.drop_length]; rfl
        clear hcap
        gi_wp2_with fail
        gi_loop [4, 5] (Inner (s.size - k * 8) (fun m => wval ((chunk (bts s) k).drop m))) (fun _ j => (intOf j + 1).toNat)
        case atStart => exact ⟨s.size - k * 8, Nat.le_refl _, by congr 1; omega, congrArg (Value.int .u64) HW0.out.symm⟩
        case round =>
          obtain ⟨m, hm, rfl, rfl⟩ := hrel
          by_cases hm0 : m = 0
          · subst hm0
            gi_wp2
            refine hR.mono ?_
            rintro e W3 (⟨rfl, hJ3, hk3⟩ | ⟨rfl, hJx3⟩)
            · gi_wp2
              go_roundw
              case rel => exact ⟨k + 1, by omega, by simp, by rw [upto_succ]; exact hJ3, hnx.trans hk3⟩
              case measure => simp [intOf]; omega
            · gi_wp2
              refine bodyPost_ret (results_none rfl _ _ _) rfl ?_
              exact ⟨⟨_, rfl⟩, .inr ⟨_, ⟨k + 1, by omega, (upto_succ _ _).symm⟩, hJx3⟩⟩
          · have HS := wval_step s k m (by omega) (by omega) (by omega)
            have HS' := hid HS
            clear HS
            gi_wp2_with fail
            go_round
            case rel => exact ⟨m - 1, by omega, by congr 1; omega, congrArg (Value.int .u64) HS'.out⟩
            case measure => simp [intOf]; omega
      · have h8' : 8 ≤ (s.size : Int) - k * 8 := by omega
        have hcap : 8 = (chunk (bts s) k).length := by rw [chunk_length]; omega
        have HW0 : Hid (wval ((chunk (bts s) k).drop (8)) = 0) := by rw [hcap, List.drop_length]; rfl
        clear hcap
        gi_wp2_with fail
        gi_loop [4, 5] (Inner (8) (fun m => wval ((chunk (bts s) k).drop m))) (fun _ j => (intOf j + 1).toNat)
        case atStart => exact ⟨8, Nat.le_refl _, rfl, congrArg (Value.int .u64) HW0.out.symm⟩
        case round =>
          obtain ⟨m, hm, rfl, rfl⟩ := hrel
          by_cases hm0 : m = 0
          · subst hm0
            gi_wp2
            refine hR.mono ?_
            rintro e W3 (⟨rfl, hJ3, hk3⟩ | ⟨rfl, hJx3⟩)
            · gi_wp2
              go_roundw
              case rel => exact ⟨k + 1, by omega, by simp, by rw [upto_succ]; exact hJ3, hnx.trans hk3⟩
              case measure => simp [intOf]; omega
            · gi_wp2
              refine bodyPost_ret (results_none rfl _ _ _) rfl ?_
              exact ⟨⟨_, rfl⟩, .inr ⟨_, ⟨k + 1, by omega, (upto_succ _ _).symm⟩, hJx3⟩⟩
          · have HS := wval_step s k m (by omega) (by omega) (by omega)
            have HS' := hid HS
            clear HS
            gi_wp2_with fail
            go_round
            case rel => exact ⟨m - 1, by omega, by congr 1; omega, congrArg (Value.int .u64) HS'.out⟩
            case measure => simp [intOf]; omega
    · obtain rfl : k = (s.size + 7) / 8 := by omega
      gi_wp2
      go_end0
      exact ⟨⟨_, rfl⟩, .inl ⟨_, rfl, hJs⟩⟩

set_option maxHeartbeats 1000000 in
/-- num.Each: the string is boxed; the function value captures the box. -/
theorem each_in (F : Fence) (n : Nat) (h46 : F.fn 46) (hro : F.round = none) (s : ByteArray) (w : World) :
    CallsIn F n Try.prog 46 #[.string s] w fun e w' => e = .returned (.func (.func 56) #[] #[.pointer (some ⟨w.heap.size, 0, none⟩)]) ∧ w' = w.alloc (.cells #[.string s] 9) := by
  refine callsIn_of_wp Try.func46 rfl h46 ?_ hro
  simp only [Try.ntmps46, List.size_toArray, List.length_cons, List.length_nil, Nat.reduceAdd, Nat.reduceSub, Array.replicate_succ, Array.replicate_zero, List.push_toArray, List.append_toArray, List.nil_append, List.cons_append]
  gi_wp2
  go_ret
  exact ⟨rfl, rfl⟩

/-- The words of a string, each with its number. -/
def eachL (s : ByteArray) : List (Nat × Int) := upto (fun j => (j, word (bts s) j)) ((s.size + 7) / 8)

theorem each_stops (F : Fence) (n : Nat) (h56 : F.fn 56) (hro : F.round = none) (hn : 1 ≤ n) (Bs : Nat) (s : ByteArray) (hs : s.size ≤ 140737488351232) (w : World) (hBs : Bs < w.heap.size)
    (hc : w.cell? ⟨Bs, 0, none⟩ = some (.string s)) :
    SeqStopsK F n Try.prog 56 #[.pointer (some ⟨Bs, 0, none⟩)] (fun x : Nat × Int => #[Value.int .i64 (x.1 : Int), Value.int .u64 x.2]) (KB Bs) (fun ys => ys = eachL s)
      (fun pre => ∃ k, k ≤ (s.size + 7) / 8 ∧ pre = upto (fun j => (j, word (bts s) j)) k) ((s.size + 7) / 8) w := fun l J Jx W hW _ _ hY h0 =>
  each1_in F n h56 hro hn l Bs s hs J Jx hY W ((hW.cell (p := ⟨Bs, 0, none⟩) hBs).trans hc) h0

/-- The words alone; and as values. -/
def wordsOf (l : List (Nat × Int)) : List Int := l.map (·.2)
def us (l : List Int) : List Value := l.map (Value.int .u64)
theorem wordsOf_snoc (l : List (Nat × Int)) (x : Nat × Int) : wordsOf (l ++ [x]) = wordsOf l ++ [x.2] := by simp [wordsOf]
theorem us_snoc (l : List Int) (x : Int) : us (l ++ [x]) = us l ++ [Value.int .u64 x] := by simp [us]
theorem wordsOf_length (l : List (Nat × Int)) : (wordsOf l).length = l.length := by simp [wordsOf]
theorem info25 : (Try.prog.info? 25).map (fun i => (i.zero, i.size, i.bytes)) = some (some (.int .u64 0), 1, 8) := by kernel_rfl

set_option maxRecDepth 100000 in
set_option maxHeartbeats 2000000 in
theorem pack_in (F : Fence) (n : Nat) (h48 : F.fn 48) (h46 : F.fn 46) (h56 : F.fn 56) (hro : F.round = none) (hn : 3 ≤ n) (s : ByteArray) (hs : s.size ≤ 140737488351232) (w : World) :
    CallsIn F n Try.prog 48 #[.string s] w fun e W' => ∃ v, e = .returned v ∧ W'.ownsRow w.heap.size 25 1 v (wordsOf (eachL s)).length (us (wordsOf (eachL s))) ∧ Below w.heap.size w W' := by
  have h1 : 1 ≤ n := by omega
  obtain ⟨i0, hi, hz0, hz1, hz2⟩ := info_parts info25
  refine callsIn_of_wp_marks Try.func48 rfl h48 ?_ hro
  simp only [Try.ntmps48, List.size_toArray, List.length_cons, List.length_nil, Nat.reduceAdd, Nat.reduceSub, Array.replicate_succ, Array.replicate_zero, List.push_toArray, List.append_toArray, List.nil_append, List.cons_append]
  gi_wp2_with (gi_at_call 46; refine (each_in F (n - 1) h46 hro _ _).mono ?_; rintro e w' ⟨rfl, rfl⟩)
  have bO := Boxed.new w 39 (.slice none 0 0)
  have bN := Boxed.new (w.alloc (.cells #[.slice none 0 0] 39)) 9 (.string s)
  rw [World.size_alloc] at bN
  have hB0 : Below w.heap.size w ((w.alloc (.cells #[.slice none 0 0] 39)).alloc (.cells #[.string s] 9)) := ((Below.refl _ w).alloc (Nat.le_refl _) _).alloc (by simp) _
  refine wpIn_rangeFunc_ownG hro h1 (gf := 56) (lb := #[.pointer (some ⟨w.heap.size + 1, 0, none⟩)]) rfl h56 (enters_of Try.func56 (by kernel_rfl) rfl)
    (each_stops F (n - 1) h56 hro (by omega) (w.heap.size + 1) s hs _ (by simp) bN.cell) (fun h k => h.trans k) (kb_b (by simp)) (Below.refl _ _) (fun _ => rfl)
    (fun pre W => ((∃ v, Boxed W w.heap.size 39 v ∧ W.ownsRow w.heap.size 25 1 v (wordsOf pre).length (us (wordsOf pre)) ∧ True) ∧ Boxed W (w.heap.size + 1) 9 (.string s)) ∧ Below w.heap.size w W)
    (fun _ _ _ => False)
    (OwnFrom.and (OwnFrom.and (Own.from (holdsRow_own w.heap.size w.heap.size 39 25 1 (fun pre : List (Nat × Int) => (wordsOf pre).length) (fun pre : List (Nat × Int) => us (wordsOf pre)) (fun pre v => True)) _) (Own.from (boxed_own _ _ _) _)) (ownFrom_below (Nat.le_refl _) (by simp; omega)))
    (fun _ _ _ _ _ hs _ _ => hs)
    ⟨⟨⟨_, bO.alloc _, World.ownsRow_nil _ _ _ _, trivial⟩, bN⟩, hB0⟩
    (fun x => { tmps := #[.string s, undef, .slice none 0 0, .pointer (some ⟨w.heap.size, 0, none⟩), undef, .int .u64 x.2, .string s, .func (.func 56) #[] #[.pointer (some ⟨w.heap.size + 1, 0, none⟩)], .int .i64 x.1, .int .u64 x.2, undef, undef, undef, undef, undef], defers := [] }) ?assign ?body ?done ?stop
  case assign =>
    intro l x W K hK
    gi_wp2
    exact hK
  case body =>
    rintro l pre x W ⟨⟨⟨v, hv, hrow, -⟩, hs2⟩, hB⟩ hlt
    have hc := hv.cell
    have hpl := wordsOf_length pre
    have hpl' : (wordsOf pre).length < (s.size + 7) / 8 := by omega
    clear hpl
    gi_wp2_with (gi_at_builtin; refine wpListIn_append_own _ rfl _ _ 39 rfl w.heap.size 25 i0 (.int .u64 0) 1 8 Try.underlying39 hi hz0 hz1 hz2 rfl (by decide) _ _ _ rfl (hrow.alloc _) ⟨W.heap.size, 0, none⟩ 1 1 [.int .u64 x.2] rfl rfl (cell_one_new _ _ _) (by simp [Value.oneCell']) (by simp only [maxLen]; omega) (by omega) (by have := hB.size; simp; omega) ?_; intro v' w1 hown' hgrow _; obtain ⟨g', cap', rfl⟩ := ownsRow_succ hown'; obtain ⟨hv1, hv2, hr2, hk2, hb2⟩ := hv.appended (by decide) hrow hB.size (Nat.le_refl _) hown' hgrow; have hc1 := hv1.cell; have hf1 := hv1.frozen)
    have hs3 := ((hs2.alloc _).kept hgrow (hs2.not_row (by decide) hrow)).other (show w.heap.size + 1 ≠ w.heap.size by omega) (.slice (some ⟨g', 0, none⟩) ((wordsOf pre).length + 1) cap')
    exact ⟨hk2.from _, Eq.trans hs3 (Eq.symm hs2), ⟨⟨_, hv2, by rw [wordsOf_snoc, us_snoc]; simpa using hr2, trivial⟩, hs3⟩, hB.trans hb2⟩
  case done =>
    rintro D ys W hD rfl ⟨⟨⟨v, hv, hrow, -⟩, hs2⟩, hB⟩ hK
    have hc := hv.cell
    gi_wp2
    refine ⟨by simp, .inl ⟨_, _, rfl, run_takeDeferred hK, ?_⟩⟩
    exact ⟨_, results_tmp rfl _ _ _, v, rfl, ownsRow_putObj hrow _ hK rfl, hB.trans (belowK_b (w := w) (Nat.le_refl _) W D _ _ (by simp at hD; omega) hK rfl rfl)⟩
  case stop =>
    rintro D c pre W _ _ h _
    exact h.elim

theorem pack_any (s : ByteArray) (hs : s.size ≤ 140737488351232) (w : World) :
    Calls Try.prog 48 #[.string s] w fun e W' => ∃ v, e = .returned v ∧ W'.ownsRow w.heap.size 25 1 v (wordsOf (eachL s)).length (us (wordsOf (eachL s))) ∧ Below w.heap.size w W' :=
  callsIn_wide.1 (pack_in Fence.wide 3 trivial trivial trivial rfl (by omega) s hs w)
end Go.Proofs.Ytljbkonhailamaa.Num
