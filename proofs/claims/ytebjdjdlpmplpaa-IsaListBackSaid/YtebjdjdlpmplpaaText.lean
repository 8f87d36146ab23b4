/- What isa.Text answers, at every instruction. -/
import Derived.Test.YtebjdjdlpmplpaaIsa
import Derived.Test.YtebjdjdlpmplpaaNum
import Derived.Laws.RangeString
import Derived.Lib.OthersKept
namespace Go.Proofs.Ytebjdjdlpmplpaa.Isa
open Go.Lib Go.RowKit Go.Proofs.YtebjdjdlpmplpaaW.PrintWords Go.Proofs.YtebjdjdlpmplpaaW.PrintLast
open Go.Proofs.Ytebjdjdlpmplpaa.Num (hid)
/-- A number as text. -/
def numT (n : Int) : ByteArray := strOfNums (Num.textOf n)
/-- What stands for a letter of the form. -/
def piece (a b c n : Int) (ch : Int) : ByteArray :=
  if ch = 97 then (⟨#[32, 114]⟩ : ByteArray) ++ numT a else if ch = 98 then (⟨#[32, 114]⟩ : ByteArray) ++ numT b else if ch = 99 then (⟨#[32, 114]⟩ : ByteArray) ++ numT c else (⟨#[32]⟩ : ByteArray) ++ numT n
def textAcc (op a b c n : Int) : Nat → ByteArray
  | 0 => nameOf op
  | p + 1 => textAcc op a b c n p ++ piece a b c n (bt (formOf op) p)
/-- What isa.Text answers. -/
def isaText (op a b c n : Int) : ByteArray := if checkOf op a b c n = 0 then textAcc op a b c n (formOf op).size else ⟨#[]⟩
def i64in (n : Int) : Prop := -9223372036854775808 ≤ n ∧ n ≤ 9223372036854775807
theorem name_small (op : Int) : (nameOf op).size ≤ 8 := by
  unfold nameOf
  split
  · decide
  split
  · decide
  rename_i h1 h2
  rcases op_cases h1 h2 with rfl | rfl | rfl | rfl | rfl | rfl | rfl | rfl | rfl | rfl | rfl | rfl | rfl | rfl | rfl | rfl | rfl | rfl | rfl | rfl | rfl | rfl | rfl | rfl | rfl | rfl | rfl | rfl | rfl | rfl | rfl | rfl | rfl | rfl | rfl | rfl <;> decide
theorem size_strOfNums (l : List Int) : (strOfNums l).size = l.length := by
  show (strOfNums l).data.size = _
  rw [← Array.length_toList, strOfNums_data, List.length_map]
theorem numT_small (n : Int) (h : i64in n) : (numT n).size ≤ 20 := by
  unfold numT Num.textOf
  rw [size_strOfNums]
  have := Num.digs_len 18 n.natAbs (by unfold i64in at h; omega)
  split <;> simp <;> omega
theorem piece_small (a b c n ch : Int) (ha : i64in a) (hb : i64in b) (hc : i64in c) (hn : i64in n) : (piece a b c n ch).size ≤ 22 := by
  have := numT_small a ha
  have := numT_small b hb
  have := numT_small c hc
  have := numT_small n hn
  have h2 : (⟨#[32, 114]⟩ : ByteArray).size = 2 := rfl
  have h1 : (⟨#[32]⟩ : ByteArray).size = 1 := rfl
  unfold piece
  split
  · rw [ByteArray.size_append]; omega
  split
  · rw [ByteArray.size_append]; omega
  split
  · rw [ByteArray.size_append]; omega
  · rw [ByteArray.size_append]; omega
theorem acc_small (op a b c n : Int) (ha : i64in a) (hb : i64in b) (hc : i64in c) (hn : i64in n) (p : Nat) : (textAcc op a b c n p).size ≤ 8 + 22 * p := by
  induction p with
  | zero => exact name_small op
  | succ p ih =>
    have := piece_small a b c n (bt (formOf op) p) ha hb hc hn
    rw [textAcc, ByteArray.size_append]; omega
/-- Each letter of a form is one of four. -/
theorem form_letters (op : Int) (p : Nat) (h : p < (formOf op).size) : ((formOf op)[p]'h).toNat < 128 := by
  have hall : ∀ b ∈ (formOf op).data.toList, b.toNat < 128 := by
    unfold formOf
    split
    · decide
    split
    · decide
    rename_i h1 h2
    rcases op_cases h1 h2 with rfl | rfl | rfl | rfl | rfl | rfl | rfl | rfl | rfl | rfl | rfl | rfl | rfl | rfl | rfl | rfl | rfl | rfl | rfl | rfl | rfl | rfl | rfl | rfl | rfl | rfl | rfl | rfl | rfl | rfl | rfl | rfl | rfl | rfl | rfl | rfl <;> decide
  exact hall _ (by simp [ByteArray.getElem_eq_getElem_data])
theorem numT_any (n : Int) (w : World) (h : i64in n) : Calls Try.prog 49 #[.int .i64 n] w fun e w' => e = .returned (.string (numT n)) ∧ Below w.heap.size w w' := Num.text_any n w h.1 h.2
theorem iterAt_far (w : World) (k g : Nat) (s : ByteArray) (pos : Nat) (h : g ≠ k) : (w.iterAt k s pos).heap[g]? = w.heap[g]? := by
  show (w.heap.setIfInBounds k _)[g]? = _
  rw [Array.getElem?_setIfInBounds, if_neg (by omega)]
theorem below_iterAt {B : Nat} {w0 w : World} (h : Below B w0 w) {k : Nat} (hk : B ≤ k) (s : ByteArray) (pos : Nat) : Below B w0 (w.iterAt k s pos) :=
  h.trans ⟨rfl, rfl, rfl, by simp [World.iterAt], fun g hg => iterAt_far w k g s pos (by omega)⟩
theorem text_no (op a b c n : Int) (w : World) (h : checkOf op a b c n ≠ 0) :
    Calls Try.prog 33 #[.agg #[.int .i64 op, .int .i64 a, .int .i64 b, .int .i64 c, .int .i64 n]] w fun e w' => e = .returned (.string ⟨#[]⟩) ∧ Below w.heap.size w w' := by
  have hu30 := Try.underlying30
  have hne : (checkOf op a b c n != 0) = true := bne_iff_ne.2 h
  clear h
  go_enter Try.func33, Try.ntmps33
  go_wp2_with (go_at_call 20; (with_reducible refine (check_any op a b c n _).mono ?_); rintro e w1 ⟨rfl, hB1⟩)
  go_ret
  exact ⟨rfl, ((Below.refl _ _).alloc (Nat.le_refl _) _).trans (hB1.mono (by simp))⟩
theorem text_ok (op a b c n : Int) (w : World) (h : checkOf op a b c n = 0) (ha : i64in a) (hb : i64in b) (hc : i64in c) (hn : i64in n) :
    Calls Try.prog 33 #[.agg #[.int .i64 op, .int .i64 a, .int .i64 b, .int .i64 c, .int .i64 n]] w fun e w' => e = .returned (.string (textAcc op a b c n (formOf op).size)) ∧ Below w.heap.size w w' := by
  have hu30 := Try.underlying30
  have hne : (checkOf op a b c n != 0) = false := bne_eq_false_iff_eq.2 h
  clear h
  go_enter Try.func33, Try.ntmps33
  go_wp2_with (first
    | (go_at_call 20; (with_reducible refine (check_any op a b c n _).mono ?_); rintro e w1 ⟨rfl, hB1⟩; have hb1 := blk_below (blk_new w _) hB1; have hc0 := (blk_cell hb1 0).trans rfl)
    | (go_at_call 15; (with_reducible refine (name_any op _).mono ?_); rintro e w2 ⟨rfl, hB2⟩; have hb2 := blk_below hb1 hB2; have hc1 := (blk_cell hb2 0).trans rfl)
    | (go_at_call 16; (with_reducible refine (form_any op _).mono ?_); rintro e w3 ⟨rfl, hB3⟩; have hb3 := blk_below hb2 hB3))
  have hw0 : w.heap.size < w3.heap.size := blk_lt hb3
  have HB := Aside0.mk (show Below w.heap.size w w3 from (((((Below.refl _ _).alloc (Nat.le_refl _) _).trans (hB1.mono (by simp))).trans (hB2.mono (Nat.le_of_lt (blk_lt hb1)))).trans (hB3.mono (Nat.le_of_lt (blk_lt hb2)))))
  have hszf := form_small op
  have hasc := form_letters op
  have Hasc := hid hasc
  clear hasc hB1 hB2 hB3 hc0 hc1 hne
  go_loopw [3] (fun s wr => ∃ p : Nat, p ≤ (formOf op).size ∧ s = .string (textAcc op a b c n p) ∧ Hid (wr.heap[w.heap.size]? = some (.cells #[.int .i64 op, .int .i64 a, .int .i64 b, .int .i64 c, .int .i64 n] 30 (0, 0))) ∧ wr.heap[w3.heap.size]? = some (.stringIter (formOf op) p) ∧ Below w.heap.size w wr) (fun _ wr => (formOf op).size - wr.iterPos w3.heap.size)
  case atStart => exact ⟨0, by omega, rfl, hid (blk_alloc hb3 _), World.iter_heap _ _ _, HB.out.alloc (by omega) _⟩
  case round =>
    obtain ⟨p, hp, rfl, Hbk, hit, hbel⟩ := hrel
    have hacc := acc_small op a b c n ha hb hc hn p
    clear HB hb1 hb2 hb3
    by_cases hlt : p < (formOf op).size
    · have hnext := fun ty => run_next_ascii_at (P := Try.prog) _ _ _ p ty hit hlt (Hasc.out p hlt)
      have hit2 := iterAt_heap _ _ _ p (p + 1) hit
      have hbk2 := (iterAt_far _ w3.heap.size w.heap.size (formOf op) (p + 1) (by omega)).trans Hbk.out
      have hbel2 := below_iterAt hbel (k := w3.heap.size) (by omega) (formOf op) (p + 1)
      have hch : bt (formOf op) p = (((formOf op)[p]'hlt).toNat : Int) := (bt_at (formOf op) (p : Int) (by simpa using hlt)).symm
      have Hpos := hid (iterPos_of hit)
      clear hit Hbk hbel
      generalize World.iterAt _ _ _ _ = W4 at *
      generalize ((formOf op)[p]'hlt).toNat = x at hch hnext
      have hcA := (blk_cell hbk2 1).trans rfl
      have hcB := (blk_cell hbk2 2).trans rfl
      have hcC := (blk_cell hbk2 3).trans rfl
      have hcN := (blk_cell hbk2 4).trans rfl
      have Hbk2 := hid hbk2
      have Hch := hid hch
      clear hbk2 hch
      by_cases h97 : (x : Int) = 97
      · have e97 := beq_iff_eq.2 h97
        have Hx : piece a b c n (bt (formOf op) p) = (⟨#[32, 114]⟩ : ByteArray) ++ numT a := by rw [Hch.out]; unfold piece; rw [if_pos h97]
        have HX := hid Hx
        have hsn := numT_small a ha
        clear Hx h97
        go_wp2_with (go_at_call 49; (with_reducible refine (numT_any _ _ ha).mono ?_); rintro e w5 ⟨rfl, hB5⟩)
        refine ⟨⟨p + 1, by omega, by rw [textAcc, HX.out], hid (blk_below Hbk2.out hB5), (hB5.block _ (blk_lt hit2)).trans hit2, hbel2.trans (hB5.mono (by have := blk_lt hit2; omega))⟩, ?_⟩
        rw [iterPos_of ((hB5.block _ (blk_lt hit2)).trans hit2), Hpos.out]
        omega
      have e97 := beq_eq_false_iff_ne.2 h97
      by_cases h98 : (x : Int) = 98
      · have e98 := beq_iff_eq.2 h98
        have Hx : piece a b c n (bt (formOf op) p) = (⟨#[32, 114]⟩ : ByteArray) ++ numT b := by rw [Hch.out]; unfold piece; rw [if_neg h97, if_pos h98]
        have HX := hid Hx
        have hsn := numT_small b hb
        clear Hx h97 h98
        go_wp2_with (go_at_call 49; (with_reducible refine (numT_any _ _ hb).mono ?_); rintro e w5 ⟨rfl, hB5⟩)
        refine ⟨⟨p + 1, by omega, by rw [textAcc, HX.out], hid (blk_below Hbk2.out hB5), (hB5.block _ (blk_lt hit2)).trans hit2, hbel2.trans (hB5.mono (by have := blk_lt hit2; omega))⟩, ?_⟩
        rw [iterPos_of ((hB5.block _ (blk_lt hit2)).trans hit2), Hpos.out]
        omega
      have e98 := beq_eq_false_iff_ne.2 h98
      by_cases h99 : (x : Int) = 99
      · have e99 := beq_iff_eq.2 h99
        have Hx : piece a b c n (bt (formOf op) p) = (⟨#[32, 114]⟩ : ByteArray) ++ numT c := by rw [Hch.out]; unfold piece; rw [if_neg h97, if_neg h98, if_pos h99]
        have HX := hid Hx
        have hsn := numT_small c hc
        clear Hx h97 h98 h99
        go_wp2_with (go_at_call 49; (with_reducible refine (numT_any _ _ hc).mono ?_); rintro e w5 ⟨rfl, hB5⟩)
        refine ⟨⟨p + 1, by omega, by rw [textAcc, HX.out], hid (blk_below Hbk2.out hB5), (hB5.block _ (blk_lt hit2)).trans hit2, hbel2.trans (hB5.mono (by have := blk_lt hit2; omega))⟩, ?_⟩
        rw [iterPos_of ((hB5.block _ (blk_lt hit2)).trans hit2), Hpos.out]
        omega
      have e99 := beq_eq_false_iff_ne.2 h99
      have Hx : piece a b c n (bt (formOf op) p) = (⟨#[32]⟩ : ByteArray) ++ numT n := by rw [Hch.out]; unfold piece; rw [if_neg h97, if_neg h98, if_neg h99]
      have HX := hid Hx
      have hsn := numT_small n hn
      clear Hx h97 h98 h99
      go_wp2_with (go_at_call 49; (with_reducible refine (numT_any _ _ hn).mono ?_); rintro e w5 ⟨rfl, hB5⟩)
      refine ⟨⟨p + 1, by omega, by rw [textAcc, HX.out], hid (blk_below Hbk2.out hB5), (hB5.block _ (blk_lt hit2)).trans hit2, hbel2.trans (hB5.mono (by have := blk_lt hit2; omega))⟩, ?_⟩
      rw [iterPos_of ((hB5.block _ (blk_lt hit2)).trans hit2), Hpos.out]
      omega
    · have hend := fun ty => run_next_end_at (P := Try.prog) _ _ _ p ty hit hlt
      obtain rfl : p = (formOf op).size := by omega
      go_wp2_with fail
      go_ret
      exact ⟨rfl, hbel⟩
theorem isaText_any (op a b c n : Int) (w : World) (ha : i64in a) (hb : i64in b) (hc : i64in c) (hn : i64in n) :
    Calls Try.prog 33 #[.agg #[.int .i64 op, .int .i64 a, .int .i64 b, .int .i64 c, .int .i64 n]] w fun e w' => e = .returned (.string (isaText op a b c n)) ∧ Below w.heap.size w w' := by
  unfold isaText
  by_cases h : checkOf op a b c n = 0
  · rw [if_pos h]; exact text_ok op a b c n w h ha hb hc hn
  · rw [if_neg h]; exact text_no op a b c n w h
end Go.Proofs.Ytebjdjdlpmplpaa.Isa
