/- The document's answer on instructions as text (kindlingref03's Check, Text, Parse), over what its functions compute. -/
import Derived.Test.YtebjdjdlpmplpaaTx8
import Derived.Test.YtebjdjdlpmplpaaLpParse
import Derived.Test.YtebjdjdlpmplpaaTextFacts
namespace Go.Proofs.Ytebjdjdlpmplpaa.FaT
open Go.RowKit Go.Proofs.Ytebjdjdlpmplpaa.Tx Go.Proofs.Ytebjdjdlpmplpaa.Isa Go.Proofs.YtebjdjdlpmplpaaW.PrintWords Go.Proofs.YtebjdjdlpmplpaaW.PrintLast
open Num (textOf bts parseOf fitZ)
/-- What the operations read and write. -/
def readsAt : Nat → ByteArray
  | 1 => ⟨#[]⟩
  | 2 => ⟨#[]⟩
  | 3 => ⟨#[98]⟩
  | 4 => ⟨#[97]⟩
  | 5 => ⟨#[]⟩
  | 6 => ⟨#[97]⟩
  | 7 => ⟨#[98, 99]⟩
  | 8 => ⟨#[98, 99]⟩
  | 9 => ⟨#[98, 99]⟩
  | 10 => ⟨#[98, 99]⟩
  | 11 => ⟨#[98, 99]⟩
  | 12 => ⟨#[98]⟩
  | 13 => ⟨#[98, 99]⟩
  | 14 => ⟨#[98, 99]⟩
  | 15 => ⟨#[98, 99]⟩
  | 16 => ⟨#[]⟩
  | 17 => ⟨#[]⟩
  | 18 => ⟨#[98]⟩
  | 19 => ⟨#[98]⟩
  | 20 => ⟨#[97, 98]⟩
  | 21 => ⟨#[97, 98]⟩
  | 22 => ⟨#[98]⟩
  | 23 => ⟨#[]⟩
  | 24 => ⟨#[97]⟩
  | 25 => ⟨#[]⟩
  | 26 => ⟨#[97, 98]⟩
  | 27 => ⟨#[97, 98]⟩
  | 28 => ⟨#[97]⟩
  | 29 => ⟨#[]⟩
  | 30 => ⟨#[]⟩
  | 31 => ⟨#[97]⟩
  | 32 => ⟨#[98, 99]⟩
  | 33 => ⟨#[98]⟩
  | 34 => ⟨#[98]⟩
  | 35 => ⟨#[98, 99]⟩
  | 36 => ⟨#[98]⟩
  | _ => ⟨#[]⟩
def writesAt : Nat → ByteArray
  | 1 => ⟨#[97]⟩
  | 2 => ⟨#[97]⟩
  | 3 => ⟨#[97]⟩
  | 4 => ⟨#[]⟩
  | 5 => ⟨#[97]⟩
  | 6 => ⟨#[]⟩
  | 7 => ⟨#[97]⟩
  | 8 => ⟨#[97]⟩
  | 9 => ⟨#[97]⟩
  | 10 => ⟨#[97]⟩
  | 11 => ⟨#[97]⟩
  | 12 => ⟨#[97]⟩
  | 13 => ⟨#[97]⟩
  | 14 => ⟨#[97]⟩
  | 15 => ⟨#[97]⟩
  | 16 => ⟨#[97]⟩
  | 17 => ⟨#[97]⟩
  | 18 => ⟨#[97]⟩
  | 19 => ⟨#[97]⟩
  | 20 => ⟨#[]⟩
  | 21 => ⟨#[]⟩
  | 22 => ⟨#[97]⟩
  | 23 => ⟨#[]⟩
  | 24 => ⟨#[]⟩
  | 25 => ⟨#[]⟩
  | 26 => ⟨#[48]⟩
  | 27 => ⟨#[]⟩
  | 28 => ⟨#[]⟩
  | 29 => ⟨#[]⟩
  | 30 => ⟨#[]⟩
  | 31 => ⟨#[]⟩
  | 32 => ⟨#[97]⟩
  | 33 => ⟨#[97]⟩
  | 34 => ⟨#[97]⟩
  | 35 => ⟨#[97]⟩
  | 36 => ⟨#[97]⟩
  | _ => ⟨#[]⟩
theorem find_in {op : Int} (h : opIn op) : kindlingref03_Find.f op = some (nameOf op, formOf op, readsAt op.toNat, writesAt op.toNat, true) := by
  rcases op_cases h.1 h.2 with rfl | rfl | rfl | rfl | rfl | rfl | rfl | rfl | rfl | rfl | rfl | rfl | rfl | rfl | rfl | rfl | rfl | rfl | rfl | rfl | rfl | rfl | rfl | rfl | rfl | rfl | rfl | rfl | rfl | rfl | rfl | rfl | rfl | rfl | rfl | rfl <;> rfl
theorem find_out {op : Int} (h : ¬ opIn op) : kindlingref03_Find.f op = some ((⟨#[]⟩ : ByteArray), (⟨#[]⟩ : ByteArray), (⟨#[]⟩ : ByteArray), (⟨#[]⟩ : ByteArray), false) := by
  unfold kindlingref03_Find.f
  rw [kindlingref03_Table.f, Option.bind_some]
  unfold opIn at h
  by_cases h1 : op < 1
  · rw [if_pos h1]
  · have hl : tableL.length = 37 := rfl
    rw [if_neg h1, if_pos (by rw [hl]; omega)]
theorem has_from (s : ByteArray) (c : Int) (m : Nat) : ∀ i k : Nat, i + m = s.size → s.size ≤ 3 → kindlingref03_has.l0 (k + m + 1) s c (i : Int) = some (((Num.bts s).drop i).any (· == c)) := by
  induction m with
  | zero =>
    intro i k h _
    rw [kindlingref03_has.l0, if_neg (by omega), List.drop_of_length_le (by rw [Num.bts_length]; omega)]
    rfl
  | succ m ih =>
    intro i k h hs
    have hi : i < s.size := by omega
    have hd : (Num.bts s).drop i = bt s i :: (Num.bts s).drop (i + 1) := by
      rw [bt_bts s i hi]; exact List.drop_eq_getElem_cons _
    have hk := ih (i + 1) k (by omega) hs
    rw [show k + (m + 1) + 1 = (k + m + 1) + 1 from rfl, kindlingref03_has.l0, if_pos (by omega), if_pos (by omega), hd, List.any_cons]
    by_cases hc : bt s (i : Int) = c
    · rw [if_pos hc, beq_iff_eq.2 hc, Bool.true_or]
    · rw [if_neg hc, beq_eq_false_iff_ne.2 hc, Bool.false_or, ← hk]
      congr 1
      unfold wrap64
      omega
theorem has_f (k : Nat) (s : ByteArray) (c : Int) (hs : s.size ≤ 3) : kindlingref03_has.f (k + 4) s c = some (hasZ s c) := by
  unfold kindlingref03_has.f hasZ
  rw [show k + 4 = (k + 3 - s.size) + s.size + 1 by omega]
  exact has_from s c s.size 0 _ (by omega) hs

/-! ### The check -/
def abc : ByteArray := ⟨#[97, 98, 99]⟩
theorem rc0 (k j : Nat) (hj : j < 3) (op a b c n : Int) (nm f rd wr : ByteArray) (hf : f.size ≤ 3) :
    kindlingref03_Check.l0 (k + 5) abc (j : Int) op a b c n nm f rd wr = if hasZ f (97 + j) = true ∧ regBad (rg a b c j) then some 31 else kindlingref03_Check.l0 (k + 4) abc ((j + 1 : Nat) : Int) op a b c n nm f rd wr := by
  have hb : bt abc (j : Int) = 97 + j := by rcases (show j = 0 ∨ j = 1 ∨ j = 2 by omega) with rfl | rfl | rfl <;> rfl
  have hl : kindlingref03_Letter.f op a b c n (97 + (j : Int)) = some (rg a b c j) := by rcases (show j = 0 ∨ j = 1 ∨ j = 2 by omega) with rfl | rfl | rfl <;> rfl
  have hn : wrap64 ((j : Int) + 1) = ((j + 1 : Nat) : Int) := by unfold wrap64; omega
  rw [kindlingref03_Check.l0, if_pos (by omega), if_pos (by omega), if_pos (by show (j : Int) < 3; omega), hb, hl, Option.bind_some, has_f k f _ hf, Option.bind_some, hn]
  unfold regBad
  by_cases hz : hasZ f (97 + j) = true
  · rw [if_pos hz]
    by_cases h0 : rg a b c j < 0
    · rw [if_pos h0, if_pos ⟨hz, .inl h0⟩]
    · rw [if_neg h0]
      by_cases h1 : rg a b c j > 15
      · rw [if_pos h1, if_pos ⟨hz, .inr (by omega)⟩]
      · rw [if_neg h1, if_neg (by omega)]
  · rw [if_neg hz, if_neg (fun h => hz h.1)]
theorem rc1 (k j : Nat) (hj : j < 3) (op a b c n : Int) (nm f rd wr : ByteArray) (hf : f.size ≤ 3) :
    kindlingref03_Check.l1 (k + 5) abc (j : Int) op a b c n nm f rd wr = if hasZ f (97 + j) = false ∧ rg a b c j ≠ 0 then some 1 else kindlingref03_Check.l1 (k + 4) abc ((j + 1 : Nat) : Int) op a b c n nm f rd wr := by
  have hb : bt abc (j : Int) = 97 + j := by rcases (show j = 0 ∨ j = 1 ∨ j = 2 by omega) with rfl | rfl | rfl <;> rfl
  have hl : kindlingref03_Letter.f op a b c n (97 + (j : Int)) = some (rg a b c j) := by rcases (show j = 0 ∨ j = 1 ∨ j = 2 by omega) with rfl | rfl | rfl <;> rfl
  have hn : wrap64 ((j : Int) + 1) = ((j + 1 : Nat) : Int) := by unfold wrap64; omega
  rw [kindlingref03_Check.l1, if_pos (by omega), if_pos (by omega), if_pos (by show (j : Int) < 3; omega), hb, has_f k f _ hf, Option.bind_some, hn]
  by_cases hz : hasZ f (97 + j) = true
  · rw [if_pos hz, if_neg (by rw [hz]; simp)]
  · rw [if_neg hz, hl, Option.bind_some]
    have hz' : hasZ f (97 + j) = false := by simpa using hz
    by_cases h0 : rg a b c j = 0
    · rw [if_pos h0, if_neg (by omega)]
    · rw [if_neg h0, if_pos ⟨hz', h0⟩]
theorem rc2 (k : Nat) (op a b c n : Int) (nm f rd wr : ByteArray) (hf : f.size ≤ 3) :
    kindlingref03_Check.l1 (k + 5) abc ((3 : Nat) : Int) op a b c n nm f rd wr = some (if nBad f n then 1 else 0) := by
  rw [kindlingref03_Check.l1, if_neg (by decide), has_f k f _ hf]
  simp only [Option.bind_some]
  by_cases hz : hasZ f 110 = true
  · have hb : nBad f n ↔ (n < -2147483648 ∨ 2147483647 < n) := by unfold nBad; rw [if_pos hz]
    rw [if_pos hz]
    by_cases h0 : n < -2147483648
    · rw [if_pos h0, if_pos (hb.2 (.inl h0))]
    · rw [if_neg h0]
      by_cases h1 : n > 2147483647
      · rw [if_pos h1, if_pos (hb.2 (.inr h1))]
      · rw [if_neg h1, if_pos hz, if_neg (fun h => by have := hb.1 h; omega)]
  · have hb : nBad f n ↔ n ≠ 0 := by unfold nBad; rw [if_neg hz]
    rw [if_neg hz, if_neg hz]
    by_cases h0 : n = 0
    · rw [if_pos h0, if_neg (fun h => hb.1 h h0)]
    · rw [if_neg h0, if_pos (hb.2 h0)]
theorem rc_end (k : Nat) (op a b c n : Int) (nm f rd wr : ByteArray) : kindlingref03_Check.l0 (k + 1) abc ((3 : Nat) : Int) op a b c n nm f rd wr = kindlingref03_Check.l1 k abc ((0 : Nat) : Int) op a b c n nm f rd wr := by
  rw [kindlingref03_Check.l0, if_neg (by decide)]
  rfl
theorem rcheck_f (k : Nat) (op a b c n : Int) : kindlingref03_Check.f (k + 12) op a b c n = some (checkOf op a b c n) := by
  unfold kindlingref03_Check.f
  by_cases h : opIn op
  · rw [find_in h, Option.bind_some, if_pos rfl]
    have hf := form_small op
    have e := rc0 (k + 7) 0 (by omega) op a b c n (nameOf op) (formOf op) (readsAt op.toNat) (writesAt op.toNat) hf
    refine Eq.trans e ?_
    clear e
    unfold checkOf
    rw [if_neg (name_ne h)]
    rw [show k + 7 + 4 = k + 6 + 5 from rfl, rc0 (k + 6) 1 (by omega) op a b c n _ _ _ _ hf, show k + 6 + 4 = k + 5 + 5 from rfl, rc0 (k + 5) 2 (by omega) op a b c n _ _ _ _ hf,
      show k + 5 + 4 = k + 8 + 1 from rfl, rc_end, show k + 8 = k + 3 + 5 from rfl, rc1 (k + 3) 0 (by omega) op a b c n _ _ _ _ hf, show k + 3 + 4 = k + 2 + 5 from rfl, rc1 (k + 2) 1 (by omega) op a b c n _ _ _ _ hf,
      show k + 2 + 4 = k + 1 + 5 from rfl, rc1 (k + 1) 2 (by omega) op a b c n _ _ _ _ hf, show k + 1 + 4 = k + 5 from rfl, rc2 k op a b c n _ _ _ _ hf]
    simp only [remem]
    by_cases h1 : hasZ (formOf op) 97 = true ∧ regBad a
    · rw [if_pos h1, if_pos (show hasZ (formOf op) (97 + (0 : Nat)) = true ∧ regBad (rg a b c 0) from h1)]
    rw [if_neg h1, if_neg (show ¬ (hasZ (formOf op) (97 + (0 : Nat)) = true ∧ regBad (rg a b c 0)) from h1)]
    by_cases h2 : hasZ (formOf op) 98 = true ∧ regBad b
    · rw [if_pos h2, if_pos (show hasZ (formOf op) (97 + (1 : Nat)) = true ∧ regBad (rg a b c 1) from h2)]
    rw [if_neg h2, if_neg (show ¬ (hasZ (formOf op) (97 + (1 : Nat)) = true ∧ regBad (rg a b c 1)) from h2)]
    by_cases h3 : hasZ (formOf op) 99 = true ∧ regBad c
    · rw [if_pos h3, if_pos (show hasZ (formOf op) (97 + (2 : Nat)) = true ∧ regBad (rg a b c 2) from h3)]
    rw [if_neg h3, if_neg (show ¬ (hasZ (formOf op) (97 + (2 : Nat)) = true ∧ regBad (rg a b c 2)) from h3)]
    repeat' split
    all_goals rfl
  · rw [find_out h, Option.bind_some, if_neg (by decide)]
    unfold checkOf
    rw [if_pos (by rw [name_out h]; exact nil_toList)]

/-! ### Text -/
theorem letter_fl (op a b c n ch : Int) (h : abcn ch) : kindlingref03_Letter.f op a b c n ch = some (fl a b c n ch) := by
  rcases h with rfl | rfl | rfl | rfl <;> rfl
theorem fl_i64 {a b c n : Int} (ch : Int) (ha : i64in a) (hb : i64in b) (hc : i64in c) (hn : i64in n) : i64in (fl a b c n ch) := by
  unfold fl
  split
  · exact ha
  split
  · exact hb
  split
  · exact hc
  · exact hn
theorem rtext_from (op a b c n : Int) (nm rd wr : ByteArray) (ha : i64in a) (hb : i64in b) (hc : i64in c) (hn : i64in n) (m : Nat) : ∀ (p k : Nat), p + m = (formOf op).size →
    kindlingref03_Text.l0 (k + m + 50) (textAcc op a b c n p) (p : Int) op a b c n nm (formOf op) rd wr = some (textAcc op a b c n (formOf op).size) := by
  induction m with
  | zero =>
    intro p k h
    rw [kindlingref03_Text.l0, if_neg (by omega), show p = (formOf op).size by omega]
  | succ m ih =>
    intro p k h
    have hf := form_small op
    have hi : p < (formOf op).size := by omega
    have hl : p < (bts (formOf op)).length := by rw [Num.bts_length]; exact hi
    have hch : abcn (bt (formOf op) p) := by rw [bt_bts (formOf op) p hi]; exact form_abcn op _ (List.getElem_mem hl)
    have hacc := acc_small op a b c n ha hb hc hn p
    have hw : wrap64 ((p : Int) + 1) = ((p + 1 : Nat) : Int) := by unfold wrap64; omega
    have hv := fl_i64 (bt (formOf op) p) ha hb hc hn
    have hnum : ∀ k', 44 ≤ k' → kindlingref01_Text.f k' (fl a b c n (bt (formOf op) p)) = some (numT (fl a b c n (bt (formOf op) p))) := fun k' hk' => Fb.rtext_f hv k' hk'
    have hsz := numT_small _ hv
    have hstep := ih (p + 1) k (by omega)
    rw [textAcc] at hstep
    have h1 : (⟨#[32]⟩ : ByteArray).size = 1 := rfl
    have h2 : (⟨#[114]⟩ : ByteArray).size = 1 := rfl
    rw [show k + (m + 1) + 50 = (k + m + 50) + 1 from rfl, kindlingref03_Text.l0, if_pos (by omega), if_pos (by omega), if_pos (by omega), letter_fl _ _ _ _ _ _ hch]
    rw [Option.bind_some, Option.bind_some, hnum _ (by omega), Option.bind_some, Option.bind_some]
    by_cases h110 : bt (formOf op) (p : Int) = 110
    · rw [if_pos h110, if_pos (by rw [ByteArray.size_append]; omega), hw]
      have hp : piece a b c n (bt (formOf op) p) = (⟨#[32]⟩ : ByteArray) ++ numT (fl a b c n (bt (formOf op) p)) := by rw [h110]; rfl
      rw [hp, ← ByteArray.append_assoc] at hstep
      exact hstep
    · rw [if_neg h110, if_pos (by rw [ByteArray.size_append]; omega), if_pos (by rw [ByteArray.size_append, ByteArray.size_append]; omega), hw]
      have hp : piece a b c n (bt (formOf op) p) = (⟨#[32, 114]⟩ : ByteArray) ++ numT (fl a b c n (bt (formOf op) p)) := by
        rcases hch with h | h | h | h
        · rw [h]; rfl
        · rw [h]; rfl
        · rw [h]; rfl
        · exact absurd h h110
      have h3 : (⟨#[32, 114]⟩ : ByteArray) = (⟨#[32]⟩ : ByteArray) ++ (⟨#[114]⟩ : ByteArray) := rfl
      rw [hp, h3, ← ByteArray.append_assoc, ← ByteArray.append_assoc] at hstep
      exact hstep
theorem rtext3_f (k : Nat) (op a b c n : Int) (ha : i64in a) (hb : i64in b) (hc : i64in c) (hn : i64in n) : kindlingref03_Text.f (k + 60) op a b c n = some (isaText op a b c n) := by
  unfold kindlingref03_Text.f isaText
  rw [show k + 60 = k + 48 + 12 from rfl, rcheck_f, Option.bind_some]
  by_cases h : checkOf op a b c n = 0
  · have hf := form_small op
    rw [if_pos h, if_pos h, find_in (check_in h), Option.bind_some]
    dsimp only
    have := rtext_from op a b c n (nameOf op) (readsAt op.toNat) (writesAt op.toNat) ha hb hc hn (formOf op).size 0 (k + 10 - (formOf op).size) (by omega)
    rw [show k + 10 - (formOf op).size + (formOf op).size + 50 = k + 48 + 12 by omega] at this
    exact this
  · rw [if_neg h, if_neg h]
/-! ### Parse -/
def long (L : List (List Int)) : Bool := L.any fun w => decide (30 < w.length)
theorem str_snoc (cur : List Int) (x : Int) : strOfNums cur ++ strOfNums [x] = strOfNums (cur ++ [x]) := Fb.str_append cur [x]
theorem rsplit (s : ByteArray) (hs : s.size ≤ 1000000) (m : Nat) : ∀ (i k : Nat) (acc : List ByteArray) (cur : List Int), i + m = s.size → acc.length + m < 8796093022208 → cur.length ≤ 30 →
    kindlingref03_Parse.l0 (k + m + 1) s acc (strOfNums cur) (i : Int) = if long (splitW cur ((bts s).drop i)) = true then some err else kindlingref03_Parse.l1 k s (acc ++ (splitW cur ((bts s).drop i)).map strOfNums) tableL 1 := by
  induction m with
  | zero =>
    intro i k acc cur h ha hc
    rw [kindlingref03_Parse.l0, if_neg (by omega), if_pos (by omega), List.drop_of_length_le (by rw [Num.bts_length]; omega), splitW, if_neg (by simp [long]; omega)]
    rfl
  | succ m ih =>
    intro i k acc cur h ha hc
    have hi : i < s.size := by omega
    have hd : (bts s).drop i = bt s i :: (bts s).drop (i + 1) := by
      rw [bt_bts s i hi]; exact List.drop_eq_getElem_cons _
    have hw : wrap64 ((i : Int) + 1) = ((i + 1 : Nat) : Int) := by unfold wrap64; omega
    rw [show k + (m + 1) + 1 = (k + m + 1) + 1 from rfl, kindlingref03_Parse.l0, if_pos (by omega), if_pos (by omega), hd, splitW, hw]
    by_cases h32 : bt s (i : Int) = 32
    · rw [if_pos h32, if_pos h32, if_pos (by omega), if_neg (by decide)]
      have := ih (i + 1) k (acc ++ [strOfNums cur]) [] (by omega) (by simp; omega) (by simp)
      refine Eq.trans this ?_
      have hl : long (cur :: splitW [] ((bts s).drop (i + 1))) = long (splitW [] ((bts s).drop (i + 1))) := by
        unfold long
        rw [List.any_cons, decide_eq_false (by omega), Bool.false_or]
      rw [hl]
      simp
    · rw [if_neg h32, if_neg h32, Option.bind_some, str_snoc, size_strOfNums, size_strOfNums]
      rw [if_pos (by simp; omega), size_strOfNums]
      by_cases h30 : ((cur ++ [bt s (i : Int)]).length : Int) > 30
      · rw [if_pos h30, if_pos]
        · rfl
        · have hall : ∀ (l c0 : List Int), 30 < c0.length → long (splitW c0 l) = true := by
            intro l
            induction l with
            | nil => intro c0 hc0; simp [splitW, long, hc0]
            | cons x r ihr =>
              intro c0 hc0
              rw [splitW]
              split
              · unfold long; rw [List.any_cons, decide_eq_true hc0, Bool.true_or]
              · exact ihr _ (by simp; omega)
          exact hall _ _ (by omega)
      · rw [if_neg h30]
        exact ih (i + 1) k acc (cur ++ [bt s i]) (by omega) (by omega) (by omega)
end Go.Proofs.Ytebjdjdlpmplpaa.FaT
