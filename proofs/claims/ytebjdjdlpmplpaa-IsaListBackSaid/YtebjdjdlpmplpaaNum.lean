/- What num.Text answers, at every argument within the machine's bounds. -/
import Derived.RangeFuncNested
import Derived.RangeFuncBound
import Derived.RangeFuncCalls
import Derived.RangeFuncLeaves
import Derived.RangeFuncBox
import Derived.Shelf.Abstract
import Derived.Shelf.RegionOpen
import Derived.WalkKit
import Derived.OwnWalkIn
import Derived.TacticsInMore
import Derived.LoopNIn
import Derived.LoopIn
import Derived.WalkLawsBesides
import Derived.Laws.BytesArg
import Derived.Laws.Slices
import Derived.Deep.LoopGhost
import Derived.Maps.AppendAt
import Derived.Test.YtebjdjdlpmplpaaProg
namespace Go.Proofs.Ytebjdjdlpmplpaa.Num
open Go.RowKit Go.Shelf

theorem hid {p : Prop} (h : p) : Hid p := h


/-- The digits of a number, as bytes. -/
def digs (u : Nat) : List Int := if u < 10 then [48 + (u : Int)] else digs (u / 10) ++ [48 + ((u % 10 : Nat) : Int)]
termination_by u
decreasing_by omega

/-- A number in digits, '-' ahead of it if it is below 0. -/
def textOf (n : Int) : List Int := if n < 0 then 45 :: digs n.natAbs else digs n.natAbs

theorem digs_len (m : Nat) : ∀ u, u < 10 ^ (m + 1) → (digs u).length ≤ m + 1 := by
  induction m with
  | zero => intro u h; rw [digs, if_pos (by omega)]; simp
  | succ m ih =>
    intro u h
    rw [digs]
    split
    · simp
    · have := ih (u / 10) (by rw [Nat.pow_succ] at h; omega)
      simp; omega

theorem digs_pos (u : Nat) : 1 ≤ (digs u).length := by rw [digs]; split <;> simp

/-- q is left of U, and tl are its last digits. -/
def DD (U q : Nat) (tl : List Int) : Prop := q ≤ U ∧ ((tl = [] ∧ q = U) ∨ (0 < q ∧ digs q ++ tl = digs U))

theorem DD.step {U q : Nat} {tl : List Int} (h : DD U q tl) (hq : q / 10 ≠ 0) : DD U (q / 10) ((48 + ((q % 10 : Nat) : Int)) :: tl) := by
  have e : digs q = digs (q / 10) ++ [48 + ((q % 10 : Nat) : Int)] := by rw [digs, if_neg (by omega)]
  obtain ⟨hl, h⟩ := h
  refine ⟨by omega, ?_⟩
  rcases h with ⟨rfl, rfl⟩ | ⟨h0, h⟩
  · exact .inr ⟨by omega, by rw [e]⟩
  · exact .inr ⟨by omega, by rw [← h, e]; simp⟩

theorem DD.last {U q : Nat} {tl : List Int} (h : DD U q tl) (hq : q / 10 = 0) : (48 + ((q % 10 : Nat) : Int)) :: tl = digs U := by
  have e : digs q = [48 + ((q % 10 : Nat) : Int)] := by rw [digs, if_pos (by omega)]; congr 2; omega
  obtain ⟨hl, h⟩ := h
  rcases h with ⟨rfl, rfl⟩ | ⟨h0, h⟩
  · rw [e]
  · rw [← h, e]; simp

theorem DD.len {U q : Nat} {tl : List Int} (h : DD U q tl) (hU : U < 10 ^ 19) : tl.length ≤ 18 := by
  have hl := digs_len 18 U hU
  rcases h.2 with ⟨rfl, rfl⟩ | ⟨h0, h⟩
  · simp
  · rw [← h] at hl
    have := digs_pos q
    simp at hl; omega

/-- A block of bytes. -/
def Blk (W : World) (B : Nat) (xs : List Int) : Prop := ∀ j, j < xs.length → W.cell? ⟨B, j, none⟩ = some (.int .u8 (xs.getD j 0)) ∧ W.frozen? ⟨B, j, none⟩ = false

theorem Blk.set {W : World} {B : Nat} {a : Nat} {tl : List Int} (h : Blk W B (List.replicate (a + 1) 0 ++ tl)) (v : Int) : Blk (W.setCell ⟨B, a, none⟩ (.int .u8 v)) B (List.replicate a 0 ++ v :: tl) := by
  intro j hj
  have hj' : j < (List.replicate (a + 1) (0 : Int) ++ tl).length := by simp at hj ⊢; omega
  obtain ⟨h1, h2⟩ := h j hj'
  refine ⟨?_, by rw [World.frozen?_setCell]; exact h2⟩
  by_cases e : j = a
  · subst e
    rw [World.cell?_setCell_same _ _ _ h1]
    congr 2
    simp [List.getD]
  · rw [World.cell?_setCell_other _ _ _ _ (fun h => e (by injection h with _ h _; exact h.symm)), h1]
    congr 2
    simp only [List.getD, List.getElem?_append, List.getElem?_replicate, List.length_replicate]
    by_cases hlt : j < a
    · rw [if_pos hlt, if_pos hlt, if_pos (by omega), if_pos (by omega)]
    · obtain ⟨d, rfl⟩ : ∃ d, j = a + 1 + d := ⟨j - a - 1, by omega⟩
      rw [if_neg hlt, if_neg (by omega)]
      rw [show a + 1 + d - (a + 1) = d from by omega, show a + 1 + d - a = d + 1 from by omega]
      simp

/-- The slice of the block from a on, as a string. -/
theorem Blk.text {W : World} {B a n : Nat} {tl : List Int} (h : Blk W B (List.replicate a 0 ++ tl)) (hn : tl.length = n) :
    (convert 74 9 (.slice (some ⟨B, a, none⟩) n n)).run Try.prog W = .ok (.string (strOfNums tl)) W := by
  refine run_convert_bytes_arg W 74 5 (by kernel_rfl) (by kernel_rfl) B a n n tl hn (fun i hi => ?_) 9 (by kernel_rfl)
  have := (h (a + i) (by simp; omega)).1
  rw [this]
  congr 2
  simp only [List.getD, List.getElem?_append]
  rw [if_neg (by simp)]
  simp

theorem slice77 (B a : Nat) (ha : a < 20) (W : World) : (Instr.sliceAt 77 (.pointer (some ⟨B, 0, none⟩)) (some (.int .i64 (a : Int))) none none).run Try.prog W = .ok (.slice (some ⟨B, a, none⟩) (20 - a) (20 - a)) W := by
  have hal : Try.prog.arrayLen 77 = 20 := by kernel_rfl
  have hel : Try.prog.elem 77 = 5 := by kernel_rfl
  have hu : Try.prog.underlying 77 = some (.array (Try.prog.arrayLen 77) (Try.prog.elem 77)) := by rw [hal, hel]; kernel_rfl
  rw [run_sliceAt_array_l W 77 ⟨B, 0, none⟩ hu .i64 (a : Int) (by omega) (by rw [hal]; omega), hal, hel]
  have hs : (sizeOf 5).run Try.prog W = .ok 1 W := by kernel_rfl
  rw [hs]
  simp only [slicedAt, Result.andThen, Int.toNat_natCast]
  rw [if_neg (by omega)]
  simp [Addr.add]
  omega

theorem blk_new (w : World) (t : TypeId) : Blk (w.alloc (.cells #[.int .u8 0, .int .u8 0, .int .u8 0, .int .u8 0, .int .u8 0, .int .u8 0, .int .u8 0, .int .u8 0, .int .u8 0, .int .u8 0, .int .u8 0, .int .u8 0, .int .u8 0, .int .u8 0, .int .u8 0, .int .u8 0, .int .u8 0, .int .u8 0, .int .u8 0, .int .u8 0] t)) w.heap.size (List.replicate 20 0 ++ []) := by
  intro j hj
  refine ⟨?_, World.frozen?_alloc_at _ _ _ _ rfl⟩
  rw [World.cell?_alloc_at _ _ _ _ rfl]
  have hj : j < 20 := by simpa using hj
  rw [List.append_nil]
  iterate 20 (rcases j with _ | j; · rfl)
  omega

set_option maxHeartbeats 400000 in
theorem text_pos (n : Int) (w : World) (h1 : n ≤ 9223372036854775807) (hn : 0 ≤ n) :
    Calls Try.prog 49 #[.int .i64 n] w fun e w' => e = .returned (.string (strOfNums (digs n.toNat))) ∧ Below w.heap.size w w' := by
  go_enter Try.func49, Try.ntmps49
  go_wp2_with fail
  go_loopw [3, 5] (fun u at_ wr => ∃ (q a : Nat) (tl : List Int), u = .int .u64 q ∧ at_ = .int .i64 a ∧ a + tl.length = 20 ∧ DD n.toNat q tl ∧ Blk wr w.heap.size (List.replicate a 0 ++ tl) ∧ Below w.heap.size w wr)
    (fun _ at_ _ => (intOf at_).toNat)
  case atStart => 
    exact ⟨n.toNat, 20, [], by rw [Int.toNat_of_nonneg hn], rfl, rfl, ⟨Nat.le_refl _, .inl ⟨rfl, rfl⟩⟩, blk_new _ _, (Below.refl _ _).alloc (Nat.le_refl _) _⟩
  case round =>
    obtain ⟨q, a, tl, rfl, rfl, ha, hD, hB, hbel⟩ := hrel
    have hlen : tl.length ≤ 18 := hD.len (by omega)
    have hq := hD.1
    obtain ⟨b, rfl⟩ : ∃ b, a = b + 1 := ⟨a - 1, by omega⟩
    have hb := hB b (by simp; omega)
    obtain ⟨hb1, hb2⟩ := hb
    have hB' := hB.set (48 + (q : Int) % 10)
    have hcv := hB'.text (n := 20 - b) (by simp; omega)
    have hsl := slice77 w.heap.size b (by omega)
    have hbel' := hbel.setCell (p := ⟨w.heap.size, b, none⟩) (Nat.le_refl _) (.int .u8 (48 + (q : Int) % 10))
    have HD := hid hD
    have HB := hid hB'
    clear hB hD hB'
    go_wp2_with fail
    · go_ret
      have hq0 : q / 10 = 0 := by
        have h : ((q : Int) / 10 == 0) = true := by assumption
        rw [beq_iff_eq] at h
        omega
      have hl := HD.out.last hq0
      rw [show ((q % 10 : Nat) : Int) = (q : Int) % 10 from by omega] at hl
      exact ⟨congrArg (fun l => Ending.returned (.string (strOfNums l))) hl, hbel'⟩
    · go_roundw
      have hq0 : q / 10 ≠ 0 := by
        have h : ((q : Int) / 10 == 0) = false := by assumption
        rw [beq_eq_false_iff_ne] at h
        omega
      have hl := HD.out.step hq0
      rw [show ((q % 10 : Nat) : Int) = (q : Int) % 10 from by omega] at hl
      case rel => exact ⟨q / 10, b, _, by congr 1, rfl, by simp; omega, hl, HB.out, hbel'⟩
      case measure => simp [intOf]
set_option maxHeartbeats 400000 in
theorem text_neg (n : Int) (w : World) (h1 : -9223372036854775808 ≤ n) (hn : n < 0) :
    Calls Try.prog 49 #[.int .i64 n] w fun e w' => e = .returned (.string (strOfNums (45 :: digs (-n).toNat))) ∧ Below w.heap.size w w' := by
  go_enter Try.func49, Try.ntmps49
  go_wp2_with fail
  go_loopw [3, 5] (fun u at_ wr => ∃ (q a : Nat) (tl : List Int), u = .int .u64 q ∧ at_ = .int .i64 a ∧ a + tl.length = 20 ∧ DD (-n).toNat q tl ∧ Blk wr w.heap.size (List.replicate a 0 ++ tl) ∧ Below w.heap.size w wr)
    (fun _ at_ _ => (intOf at_).toNat)
  case atStart =>
    exact ⟨(-n).toNat, 20, [], by congr 1; simp only [IntKind.wrap_u64]; omega, rfl, rfl, ⟨Nat.le_refl _, .inl ⟨rfl, rfl⟩⟩, blk_new _ _, (Below.refl _ _).alloc (Nat.le_refl _) _⟩
  case round =>
    obtain ⟨q, a, tl, rfl, rfl, ha, hD, hB, hbel⟩ := hrel
    have hlen : tl.length ≤ 18 := hD.len (by omega)
    have hq := hD.1
    obtain ⟨c, rfl⟩ : ∃ b, a = b + 1 := ⟨a - 1, by omega⟩
    have hb := hB c (by simp; omega)
    obtain ⟨hb1, hb2⟩ := hb
    have hB' := hB.set (48 + (q : Int) % 10)
    have hc := hB' (c - 1) (by simp; omega)
    obtain ⟨hc1, hc2⟩ := hc
    have hB2 : Blk _ w.heap.size (List.replicate (c - 1) 0 ++ 45 :: _) := Blk.set (a := c - 1) (by rw [show c - 1 + 1 = c from by omega]; exact hB') 45
    have hcv := hB2.text (n := 20 - (c - 1)) (by simp; omega)
    have hsl : ∀ W, (Instr.sliceAt 77 (.pointer (some ⟨w.heap.size, 0, none⟩)) (some (.int .i64 ((c : Int) - 1))) none none).run Try.prog W = .ok (.slice (some ⟨w.heap.size, c - 1, none⟩) (20 - (c - 1)) (20 - (c - 1))) W := by
      have := slice77 w.heap.size (c - 1) (by omega)
      rw [show ((c - 1 : Nat) : Int) = (c : Int) - 1 from by omega] at this
      exact this
    have hbel' := hbel.setCell (p := ⟨w.heap.size, c, none⟩) (Nat.le_refl _) (.int .u8 (48 + (q : Int) % 10))
    have hbel'' := hbel'.setCell (p := ⟨w.heap.size, c - 1, none⟩) (Nat.le_refl _) (.int .u8 45)
    have HD := hid hD
    have HB := hid hB'
    have hc0 : (1 : Int) ≤ c := by omega
    clear hB hD hB' hB2
    go_wp2_with fail
    · go_ret
      have hq0 : q / 10 = 0 := by
        have h : ((q : Int) / 10 == 0) = true := by assumption
        rw [beq_iff_eq] at h
        omega
      have hl := HD.out.last hq0
      rw [show ((q % 10 : Nat) : Int) = (q : Int) % 10 from by omega] at hl
      exact ⟨congrArg (fun l => Ending.returned (.string (strOfNums (45 :: l)))) hl, hbel''⟩
    · go_roundw
      have hq0 : q / 10 ≠ 0 := by
        have h : ((q : Int) / 10 == 0) = false := by assumption
        rw [beq_eq_false_iff_ne] at h
        omega
      have hl := HD.out.step hq0
      rw [show ((q % 10 : Nat) : Int) = (q : Int) % 10 from by omega] at hl
      case rel => exact ⟨q / 10, c, _, by congr 1, rfl, by simp; omega, hl, HB.out, hbel'⟩
      case measure => simp [intOf]

theorem text_any (n : Int) (w : World) (h0 : -9223372036854775808 ≤ n) (h1 : n ≤ 9223372036854775807) :
    Calls Try.prog 49 #[.int .i64 n] w fun e w' => e = .returned (.string (strOfNums (textOf n))) ∧ Below w.heap.size w w' := by
  by_cases hn : n < 0
  · rw [show textOf n = 45 :: digs (-n).toNat from by rw [textOf, if_pos hn]; congr 2; omega]
    exact text_neg n w h0 hn
  · rw [show textOf n = digs n.toNat from by rw [textOf, if_neg hn]; congr 1; omega]
    exact text_pos n w h1 (by omega)

/-- The bytes of a string. -/
def bts (s : ByteArray) : List Int := s.data.toList.map fun b => (b.toNat : Int)
theorem bts_length (s : ByteArray) : (bts s).length = s.size := by unfold bts; rw [List.length_map, Array.length_toList]; rfl
theorem bts_get (s : ByteArray) (i : Nat) (h : i < s.size) : (bts s)[i]'(by rw [bts_length]; exact h) = ((s[i]'h).toNat : Int) := by
  unfold bts
  rw [List.getElem_map, Array.getElem_toList]
  rfl
def byteB (l : List Int) : Prop := ∀ x ∈ l, 0 ≤ x ∧ x < 256
theorem bts_byte (s : ByteArray) : byteB (bts s) := by
  intro x hx
  simp only [bts, List.mem_map] at hx
  obtain ⟨b, _, rfl⟩ := hx
  have := b.toNat_lt
  omega
end Go.Proofs.Ytebjdjdlpmplpaa.Num
