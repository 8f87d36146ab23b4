/- The plain laws of instructions, over what the program's functions compute: the table's rows, the check, words. -/
import Derived.Test.YtebjdjdlpmplpaaPr6
import Derived.Laws.BitsAllLaws
namespace Go.Proofs.Ytebjdjdlpmplpaa.Fa
open Go.RowKit Go.Proofs.Ytebjdjdlpmplpaa.Pr Go.Proofs.Ytebjdjdlpmplpaa.Isa Go.Proofs.YtebjdjdlpmplpaaW.PrintWords Go.Proofs.YtebjdjdlpmplpaaW.PrintLast
theorem i64_of {n : Int} (h : (Lit.int .i64 n).wf = true) : -9223372036854775808 ≤ n ∧ n ≤ 9223372036854775807 := by
  simpa [Lit.wf, IntKind.min, IntKind.max, IntKind.signed, IntKind.bits] using h
theorem u64_of {n : Int} (h : (Lit.int .u64 n).wf = true) : 0 ≤ n ∧ n < 18446744073709551616 := by
  have h : 0 ≤ n ∧ n ≤ 18446744073709551615 := by simpa [Lit.wf, IntKind.min, IntKind.max, IntKind.signed, IntKind.bits] using h
  omega
/-- What the operations read and write. -/
def readsAt : Nat → ByteArray
  | 1 => ⟨#[]⟩
  | 2 => ⟨#[]⟩
  | 3 => ⟨#[98]⟩
  | 4 => ⟨#[97]⟩
  | 5 => ⟨#[]⟩
  | 6 => ⟨#[97]⟩
  | 7 => ⟨#[98, 99]⟩
  | 8 => ⟨#[98, 99]⟩
  | 9 => ⟨#[98, 99]⟩
  | 10 => ⟨#[98, 99]⟩
  | 11 => ⟨#[98, 99]⟩
  | 12 => ⟨#[98]⟩
  | 13 => ⟨#[98, 99]⟩
  | 14 => ⟨#[98, 99]⟩
  | 15 => ⟨#[98, 99]⟩
  | 16 => ⟨#[]⟩
  | 17 => ⟨#[]⟩
  | 18 => ⟨#[98]⟩
  | 19 => ⟨#[98]⟩
  | 20 => ⟨#[97, 98]⟩
  | 21 => ⟨#[97, 98]⟩
  | 22 => ⟨#[98]⟩
  | 23 => ⟨#[]⟩
  | 24 => ⟨#[97]⟩
  | 25 => ⟨#[]⟩
  | 26 => ⟨#[97, 98]⟩
  | 27 => ⟨#[97, 98]⟩
  | 28 => ⟨#[97]⟩
  | 29 => ⟨#[]⟩
  | 30 => ⟨#[]⟩
  | 31 => ⟨#[97]⟩
  | 32 => ⟨#[98, 99]⟩
  | 33 => ⟨#[98]⟩
  | 34 => ⟨#[98]⟩
  | 35 => ⟨#[98, 99]⟩
  | 36 => ⟨#[98]⟩
  | _ => ⟨#[]⟩
def writesAt : Nat → ByteArray
  | 1 => ⟨#[97]⟩
  | 2 => ⟨#[97]⟩
  | 3 => ⟨#[97]⟩
  | 4 => ⟨#[]⟩
  | 5 => ⟨#[97]⟩
  | 6 => ⟨#[]⟩
  | 7 => ⟨#[97]⟩
  | 8 => ⟨#[97]⟩
  | 9 => ⟨#[97]⟩
  | 10 => ⟨#[97]⟩
  | 11 => ⟨#[97]⟩
  | 12 => ⟨#[97]⟩
  | 13 => ⟨#[97]⟩
  | 14 => ⟨#[97]⟩
  | 15 => ⟨#[97]⟩
  | 16 => ⟨#[97]⟩
  | 17 => ⟨#[97]⟩
  | 18 => ⟨#[97]⟩
  | 19 => ⟨#[97]⟩
  | 20 => ⟨#[]⟩
  | 21 => ⟨#[]⟩
  | 22 => ⟨#[97]⟩
  | 23 => ⟨#[]⟩
  | 24 => ⟨#[]⟩
  | 25 => ⟨#[]⟩
  | 26 => ⟨#[48]⟩
  | 27 => ⟨#[]⟩
  | 28 => ⟨#[]⟩
  | 29 => ⟨#[]⟩
  | 30 => ⟨#[]⟩
  | 31 => ⟨#[]⟩
  | 32 => ⟨#[97]⟩
  | 33 => ⟨#[97]⟩
  | 34 => ⟨#[97]⟩
  | 35 => ⟨#[97]⟩
  | 36 => ⟨#[97]⟩
  | _ => ⟨#[]⟩
def opIn (op : Int) : Prop := ¬ op < 1 ∧ ¬ 37 ≤ op
theorem find_in {op : Int} (h : opIn op) : kindlingref03_Find.f op = some (nameOf op, formOf op, readsAt op.toNat, writesAt op.toNat, true) := by
  rcases op_cases h.1 h.2 with rfl | rfl | rfl | rfl | rfl | rfl | rfl | rfl | rfl | rfl | rfl | rfl | rfl | rfl | rfl | rfl | rfl | rfl | rfl | rfl | rfl | rfl | rfl | rfl | rfl | rfl | rfl | rfl | rfl | rfl | rfl | rfl | rfl | rfl | rfl | rfl <;> rfl
theorem find_out {op : Int} (h : ¬ opIn op) : kindlingref03_Find.f op = some ((⟨#[]⟩ : ByteArray), (⟨#[]⟩ : ByteArray), (⟨#[]⟩ : ByteArray), (⟨#[]⟩ : ByteArray), false) := by
  unfold kindlingref03_Find.f
  rw [kindlingref03_Table.f, Option.bind_some]
  unfold opIn at h
  by_cases h1 : op < 1
  · rw [if_pos h1]
  · have hl : tableL.length = 37 := rfl
    rw [if_neg h1, if_pos (by rw [hl]; omega)]
theorem name_out {op : Int} (h : ¬ opIn op) : nameOf op = ⟨#[]⟩ := by
  unfold opIn at h
  unfold nameOf
  by_cases h1 : op < 1
  · rw [if_pos h1]
  · rw [if_neg h1, if_pos (by omega)]
theorem form_out {op : Int} (h : ¬ opIn op) : formOf op = ⟨#[]⟩ := by
  unfold opIn at h
  unfold formOf
  by_cases h1 : op < 1
  · rw [if_pos h1]
  · rw [if_neg h1, if_pos (by omega)]
theorem name_ne {op : Int} (h : opIn op) : ¬ (nameOf op).toList = [] := by
  rw [ByteArray.toList_eq]
  rcases op_cases h.1 h.2 with rfl | rfl | rfl | rfl | rfl | rfl | rfl | rfl | rfl | rfl | rfl | rfl | rfl | rfl | rfl | rfl | rfl | rfl | rfl | rfl | rfl | rfl | rfl | rfl | rfl | rfl | rfl | rfl | rfl | rfl | rfl | rfl | rfl | rfl | rfl | rfl <;> decide
theorem nil_toList : (⟨#[]⟩ : ByteArray).toList = [] := by rw [ByteArray.toList_eq]
theorem has_from (s : ByteArray) (c : Int) (m : Nat) : ∀ i k : Nat, i + m = s.size → s.size ≤ 3 → kindlingref03_has.l0 (k + m + 1) s c (i : Int) = some (((Num.bts s).drop i).any (· == c)) := by
  induction m with
  | zero =>
    intro i k h _
    rw [kindlingref03_has.l0, if_neg (by omega), List.drop_of_length_le (by rw [Num.bts_length]; omega)]
    rfl
  | succ m ih =>
    intro i k h hs
    have hi : i < s.size := by omega
    have hd : (Num.bts s).drop i = bt s i :: (Num.bts s).drop (i + 1) := by
      rw [bt_bts s i hi]; exact List.drop_eq_getElem_cons _
    have hk := ih (i + 1) k (by omega) hs
    rw [show k + (m + 1) + 1 = (k + m + 1) + 1 from rfl, kindlingref03_has.l0, if_pos (by omega), if_pos (by omega), hd, List.any_cons]
    by_cases hc : bt s (i : Int) = c
    · rw [if_pos hc, beq_iff_eq.2 hc, Bool.true_or]
    · rw [if_neg hc, beq_eq_false_iff_ne.2 hc, Bool.false_or, ← hk]
      congr 1
      unfold wrap64
      omega
theorem has_f (k : Nat) (s : ByteArray) (c : Int) (hs : s.size ≤ 3) : kindlingref03_has.f (k + 4) s c = some (hasZ s c) := by
  unfold kindlingref03_has.f hasZ
  rw [show k + 4 = (k + 3 - s.size) + s.size + 1 by omega]
  exact has_from s c s.size 0 _ (by omega) hs

/-! ### The check -/
def abc : ByteArray := ⟨#[97, 98, 99]⟩
theorem rc0 (k j : Nat) (hj : j < 3) (op a b c n : Int) (nm f rd wr : ByteArray) (hf : f.size ≤ 3) :
    kindlingref03_Check.l0 (k + 5) abc (j : Int) op a b c n nm f rd wr = if hasZ f (97 + j) = true ∧ regBad (rg a b c j) then some 31 else kindlingref03_Check.l0 (k + 4) abc ((j + 1 : Nat) : Int) op a b c n nm f rd wr := by
  have hb : bt abc (j : Int) = 97 + j := by rcases (show j = 0 ∨ j = 1 ∨ j = 2 by omega) with rfl | rfl | rfl <;> rfl
  have hl : kindlingref03_Letter.f op a b c n (97 + (j : Int)) = some (rg a b c j) := by rcases (show j = 0 ∨ j = 1 ∨ j = 2 by omega) with rfl | rfl | rfl <;> rfl
  have hn : wrap64 ((j : Int) + 1) = ((j + 1 : Nat) : Int) := by unfold wrap64; omega
  rw [kindlingref03_Check.l0, if_pos (by omega), if_pos (by omega), if_pos (by show (j : Int) < 3; omega), hb, hl, Option.bind_some, has_f k f _ hf, Option.bind_some, hn]
  unfold regBad
  by_cases hz : hasZ f (97 + j) = true
  · rw [if_pos hz]
    by_cases h0 : rg a b c j < 0
    · rw [if_pos h0, if_pos ⟨hz, .inl h0⟩]
    · rw [if_neg h0]
      by_cases h1 : rg a b c j > 15
      · rw [if_pos h1, if_pos ⟨hz, .inr (by omega)⟩]
      · rw [if_neg h1, if_neg (by omega)]
  · rw [if_neg hz, if_neg (fun h => hz h.1)]
theorem rc1 (k j : Nat) (hj : j < 3) (op a b c n : Int) (nm f rd wr : ByteArray) (hf : f.size ≤ 3) :
    kindlingref03_Check.l1 (k + 5) abc (j : Int) op a b c n nm f rd wr = if hasZ f (97 + j) = false ∧ rg a b c j ≠ 0 then some 1 else kindlingref03_Check.l1 (k + 4) abc ((j + 1 : Nat) : Int) op a b c n nm f rd wr := by
  have hb : bt abc (j : Int) = 97 + j := by rcases (show j = 0 ∨ j = 1 ∨ j = 2 by omega) with rfl | rfl | rfl <;> rfl
  have hl : kindlingref03_Letter.f op a b c n (97 + (j : Int)) = some (rg a b c j) := by rcases (show j = 0 ∨ j = 1 ∨ j = 2 by omega) with rfl | rfl | rfl <;> rfl
  have hn : wrap64 ((j : Int) + 1) = ((j + 1 : Nat) : Int) := by unfold wrap64; omega
  rw [kindlingref03_Check.l1, if_pos (by omega), if_pos (by omega), if_pos (by show (j : Int) < 3; omega), hb, has_f k f _ hf, Option.bind_some, hn]
  by_cases hz : hasZ f (97 + j) = true
  · rw [if_pos hz, if_neg (by rw [hz]; simp)]
  · rw [if_neg hz, hl, Option.bind_some]
    have hz' : hasZ f (97 + j) = false := by simpa using hz
    by_cases h0 : rg a b c j = 0
    · rw [if_pos h0, if_neg (by omega)]
    · rw [if_neg h0, if_pos ⟨hz', h0⟩]
theorem rc2 (k : Nat) (op a b c n : Int) (nm f rd wr : ByteArray) (hf : f.size ≤ 3) :
    kindlingref03_Check.l1 (k + 5) abc ((3 : Nat) : Int) op a b c n nm f rd wr = some (if nBad f n then 1 else 0) := by
  rw [kindlingref03_Check.l1, if_neg (by decide), has_f k f _ hf]
  simp only [Option.bind_some]
  by_cases hz : hasZ f 110 = true
  · have hb : nBad f n ↔ (n < -2147483648 ∨ 2147483647 < n) := by unfold nBad; rw [if_pos hz]
    rw [if_pos hz]
    by_cases h0 : n < -2147483648
    · rw [if_pos h0, if_pos (hb.2 (.inl h0))]
    · rw [if_neg h0]
      by_cases h1 : n > 2147483647
      · rw [if_pos h1, if_pos (hb.2 (.inr h1))]
      · rw [if_neg h1, if_pos hz, if_neg (fun h => by have := hb.1 h; omega)]
  · have hb : nBad f n ↔ n ≠ 0 := by unfold nBad; rw [if_neg hz]
    rw [if_neg hz, if_neg hz]
    by_cases h0 : n = 0
    · rw [if_pos h0, if_neg (fun h => hb.1 h h0)]
    · rw [if_neg h0, if_pos (hb.2 h0)]
theorem rc_end (k : Nat) (op a b c n : Int) (nm f rd wr : ByteArray) : kindlingref03_Check.l0 (k + 1) abc ((3 : Nat) : Int) op a b c n nm f rd wr = kindlingref03_Check.l1 k abc ((0 : Nat) : Int) op a b c n nm f rd wr := by
  rw [kindlingref03_Check.l0, if_neg (by decide)]
  rfl
theorem rcheck_f (k : Nat) (op a b c n : Int) : kindlingref03_Check.f (k + 12) op a b c n = some (checkOf op a b c n) := by
  unfold kindlingref03_Check.f
  by_cases h : opIn op
  · rw [find_in h, Option.bind_some, if_pos rfl]
    have hf := form_small op
    have e := rc0 (k + 7) 0 (by omega) op a b c n (nameOf op) (formOf op) (readsAt op.toNat) (writesAt op.toNat) hf
    refine Eq.trans e ?_
    clear e
    unfold checkOf
    rw [if_neg (name_ne h)]
    rw [show k + 7 + 4 = k + 6 + 5 from rfl, rc0 (k + 6) 1 (by omega) op a b c n _ _ _ _ hf, show k + 6 + 4 = k + 5 + 5 from rfl, rc0 (k + 5) 2 (by omega) op a b c n _ _ _ _ hf,
      show k + 5 + 4 = k + 8 + 1 from rfl, rc_end, show k + 8 = k + 3 + 5 from rfl, rc1 (k + 3) 0 (by omega) op a b c n _ _ _ _ hf, show k + 3 + 4 = k + 2 + 5 from rfl, rc1 (k + 2) 1 (by omega) op a b c n _ _ _ _ hf,
      show k + 2 + 4 = k + 1 + 5 from rfl, rc1 (k + 1) 2 (by omega) op a b c n _ _ _ _ hf, show k + 1 + 4 = k + 5 from rfl, rc2 k op a b c n _ _ _ _ hf]
    simp only [remem]
    by_cases h1 : hasZ (formOf op) 97 = true ∧ regBad a
    · rw [if_pos h1, if_pos (show hasZ (formOf op) (97 + (0 : Nat)) = true ∧ regBad (rg a b c 0) from h1)]
    rw [if_neg h1, if_neg (show ¬ (hasZ (formOf op) (97 + (0 : Nat)) = true ∧ regBad (rg a b c 0)) from h1)]
    by_cases h2 : hasZ (formOf op) 98 = true ∧ regBad b
    · rw [if_pos h2, if_pos (show hasZ (formOf op) (97 + (1 : Nat)) = true ∧ regBad (rg a b c 1) from h2)]
    rw [if_neg h2, if_neg (show ¬ (hasZ (formOf op) (97 + (1 : Nat)) = true ∧ regBad (rg a b c 1)) from h2)]
    by_cases h3 : hasZ (formOf op) 99 = true ∧ regBad c
    · rw [if_pos h3, if_pos (show hasZ (formOf op) (97 + (2 : Nat)) = true ∧ regBad (rg a b c 2) from h3)]
    rw [if_neg h3, if_neg (show ¬ (hasZ (formOf op) (97 + (2 : Nat)) = true ∧ regBad (rg a b c 2)) from h3)]
    repeat' split
    all_goals rfl
  · rw [find_out h, Option.bind_some, if_neg (by decide)]
    unfold checkOf
    rw [if_pos (by rw [name_out h]; exact nil_toList)]
theorem check_in {op a b c n : Int} (h : checkOf op a b c n = 0) : opIn op := by
  by_cases hi : opIn op
  · exact hi
  · exfalso
    unfold checkOf at h
    rw [if_pos (by rw [name_out hi]; exact nil_toList)] at h
    exact absurd h (by decide)
/-- What a right instruction is. -/
structure Right (op a b c n : Int) : Prop where
  hop : opIn op
  ha : 0 ≤ a ∧ a ≤ 15
  hb : 0 ≤ b ∧ b ≤ 15
  hc : 0 ≤ c ∧ c ≤ 15
  hn : -2147483648 ≤ n ∧ n ≤ 2147483647
  a0 : hasZ (formOf op) 97 = false → a = 0
  b0 : hasZ (formOf op) 98 = false → b = 0
  c0 : hasZ (formOf op) 99 = false → c = 0
  n0 : hasZ (formOf op) 110 = false → n = 0
theorem check_right {op a b c n : Int} (h : checkOf op a b c n = 0) : Right op a b c n := by
  have hi := check_in h
  unfold checkOf at h
  rw [if_neg (name_ne hi)] at h
  by_cases h1 : hasZ (formOf op) 97 = true ∧ regBad a
  · rw [if_pos h1] at h; exact absurd h (by decide)
  rw [if_neg h1] at h
  by_cases h2 : hasZ (formOf op) 98 = true ∧ regBad b
  · rw [if_pos h2] at h; exact absurd h (by decide)
  rw [if_neg h2] at h
  by_cases h3 : hasZ (formOf op) 99 = true ∧ regBad c
  · rw [if_pos h3] at h; exact absurd h (by decide)
  rw [if_neg h3] at h
  by_cases h4 : nBad (formOf op) n
  · rw [if_pos h4] at h; exact absurd h (by decide)
  rw [if_neg h4] at h
  simp only [remem] at h
  by_cases h5 : hasZ (formOf op) 99 = false ∧ c ≠ 0
  · rw [if_pos (show hasZ (formOf op) (97 + (2 : Nat)) = false ∧ rg a b c 2 ≠ 0 from h5)] at h; exact absurd h (by decide)
  rw [if_neg (show ¬ (hasZ (formOf op) (97 + (2 : Nat)) = false ∧ rg a b c 2 ≠ 0) from h5)] at h
  by_cases h6 : hasZ (formOf op) 98 = false ∧ b ≠ 0
  · rw [if_pos (show hasZ (formOf op) (97 + (1 : Nat)) = false ∧ rg a b c 1 ≠ 0 from h6)] at h; exact absurd h (by decide)
  rw [if_neg (show ¬ (hasZ (formOf op) (97 + (1 : Nat)) = false ∧ rg a b c 1 ≠ 0) from h6)] at h
  by_cases h7 : hasZ (formOf op) 97 = false ∧ a ≠ 0
  · rw [if_pos (show hasZ (formOf op) (97 + (0 : Nat)) = false ∧ rg a b c 0 ≠ 0 from h7)] at h; exact absurd h (by decide)
  have q : ∀ ch x, ¬ (hasZ (formOf op) ch = true ∧ regBad x) → ¬ (hasZ (formOf op) ch = false ∧ x ≠ 0) → (0 ≤ x ∧ x ≤ 15) ∧ (hasZ (formOf op) ch = false → x = 0) := by
    intro ch x p1 p2
    unfold regBad at p1
    cases hh : hasZ (formOf op) ch with
    | true => exact ⟨by have : ¬ (x < 0 ∨ 16 ≤ x) := fun hb => p1 ⟨hh, hb⟩; omega, fun he => by cases he⟩
    | false => have : x = 0 := Decidable.byContradiction fun hx => p2 ⟨hh, hx⟩; exact ⟨by omega, fun _ => this⟩
  obtain ⟨qa, qa0⟩ := q 97 a h1 h7
  obtain ⟨qb, qb0⟩ := q 98 b h2 h6
  obtain ⟨qc, qc0⟩ := q 99 c h3 h5
  unfold nBad at h4
  cases hh : hasZ (formOf op) 110 with
  | true => rw [if_pos hh] at h4; exact ⟨hi, qa, qb, qc, by omega, qa0, qb0, qc0, fun he => by rw [hh] at he; cases he⟩
  | false => rw [if_neg (by rw [hh]; decide)] at h4; exact ⟨hi, qa, qb, qc, by omega, qa0, qb0, qc0, fun _ => by omega⟩
theorem right_check {op a b c n : Int} (h : Right op a b c n) : checkOf op a b c n = 0 := by
  have q : ∀ x, 0 ≤ x ∧ x ≤ 15 → ¬ regBad x := by intro x hx; unfold regBad; omega
  unfold checkOf
  rw [if_neg (name_ne h.hop), if_neg (fun e => q a h.ha e.2), if_neg (fun e => q b h.hb e.2), if_neg (fun e => q c h.hc e.2)]
  have hn : ¬ nBad (formOf op) n := by
    unfold nBad
    split
    · have := h.hn; omega
    · rename_i hh; have := h.n0 (by simpa using hh); omega
  rw [if_neg hn]
  simp only [remem]
  rw [if_neg (show ¬ (hasZ (formOf op) (97 + (2 : Nat)) = false ∧ rg a b c 2 ≠ 0) from fun e => e.2 (h.c0 e.1)), if_neg (show ¬ (hasZ (formOf op) (97 + (1 : Nat)) = false ∧ rg a b c 1 ≠ 0) from fun e => e.2 (h.b0 e.1)), if_neg (show ¬ (hasZ (formOf op) (97 + (0 : Nat)) = false ∧ rg a b c 0 ≠ 0) from fun e => e.2 (h.a0 e.1))]
/-! ### Words -/
theorem or_low (i : Nat) (x y : Int) (hx0 : 0 ≤ x) (hx : x.toNat < 2 ^ i) (hx2 : x < 18446744073709551616) (hy0 : 0 ≤ y) (hyi : y.toNat % 2 ^ i = 0) (hy2 : y < 18446744073709551616) : Go.bits .or .u64 x y = x + y := by
  rw [u64_or x y hx0 hx2 hy0 hy2, Nat.or_comm, nat_join i _ _ hyi hx]
  omega
/-- An instruction's word. -/
def encW (op a b c n : Int) : Int := op + 256 * a + 65536 * b + 16777216 * c + 4294967296 * (n % 4294967296)
theorem iencode_f (op a b c n : Int) : isa_Encode.f op a b c n = some (if checkOf op a b c n = 0 then (encW op a b c n, 0) else (0, checkOf op a b c n)) := by
  unfold isa_Encode.f
  rw [show isa_Check.f op a b c n = some (checkOf op a b c n) from rfl, Option.bind_some]
  by_cases h : checkOf op a b c n = 0
  · rw [if_pos h, if_pos h]
    obtain ⟨⟨h1, h2⟩, ha, hb, hc, hn, _, _, _, _⟩ := check_right h
    congr 2
    simp only [IntKind.wrap_u64]
    rw [show op % 18446744073709551616 = op by omega, show a % 18446744073709551616 = a by omega, show b % 18446744073709551616 = b by omega, show c % 18446744073709551616 = c by omega,
      show a * 256 % 18446744073709551616 = a * 256 by omega, show b * 65536 % 18446744073709551616 = b * 65536 by omega, show c * 16777216 % 18446744073709551616 = c * 16777216 by omega]
    unfold encW
    rw [or_low 8 op (a * 256) (by omega) (by omega) (by omega) (by omega) (by omega) (by omega), or_low 16 _ (b * 65536) (by omega) (by omega) (by omega) (by omega) (by omega) (by omega),
      or_low 24 _ (c * 16777216) (by omega) (by omega) (by omega) (by omega) (by omega) (by omega), or_low 32 _ (n % 4294967296 * 4294967296) (by omega) (by omega) (by omega) (by omega) (by omega) (by omega)]
    omega
  · rw [if_neg h, if_neg h]
theorem rencode_f (k : Nat) (op a b c n : Int) : kindlingref03_Encode.f (k + 12) op a b c n = some (if checkOf op a b c n = 0 then (encW op a b c n, 0) else (0, checkOf op a b c n)) := by
  unfold kindlingref03_Encode.f
  rw [rcheck_f, Option.bind_some]
  by_cases h : checkOf op a b c n = 0
  · rw [if_pos h, if_pos h]
    obtain ⟨⟨h1, h2⟩, ha, hb, hc, hn, _, _, _, _⟩ := check_right h
    congr 2
    simp only [IntKind.wrap_u64]
    unfold encW
    rw [Int.tmod_eq_emod_of_nonneg (by omega)]
    omega
  · rw [if_neg h, if_neg h]
def decN (w : Int) : Int := if 2147483648 ≤ w / 4294967296 then w / 4294967296 - 4294967296 else w / 4294967296
/-- A word's instruction, or none. -/
def decI (w : Int) : Int × Int × Int × Int × Int × Int :=
  if checkOf (w % 256) (w / 256 % 256) (w / 65536 % 256) (w / 16777216 % 256) (decN w) = 0 then (w % 256, w / 256 % 256, w / 65536 % 256, w / 16777216 % 256, decN w, 0)
  else (0, 0, 0, 0, 0, checkOf (w % 256) (w / 256 % 256) (w / 65536 % 256) (w / 16777216 % 256) (decN w))
theorem and255 (x : Int) (h0 : 0 ≤ x) (h : x < 18446744073709551616) : Go.bits .and .u64 x 255 = x % 256 := by
  rw [u64_and x 255 h0 h (by decide) (by decide)]
  have := Nat.and_two_pow_sub_one_eq_mod x.toNat 8
  rw [show (255 : Int).toNat = 2 ^ 8 - 1 from rfl, this]
  omega
theorem w64_of {n : Int} (h : -9223372036854775808 ≤ n ∧ n ≤ 9223372036854775807) : wrap64 n = n := by unfold wrap64; omega
theorem idecode_f (w : Int) (h0 : 0 ≤ w) (h : w < 18446744073709551616) : isa_Decode.f w = some (decI w) := by
  unfold isa_Decode.f
  rw [and255 w h0 h, and255 (w / 256) (by omega) (by omega), and255 (w / 65536) (by omega) (by omega), and255 (w / 16777216) (by omega) (by omega)]
  have hn : wrap64 (wrap32 (w / 4294967296)) = decN w := by
    unfold wrap64 wrap32 decN
    split <;> omega
  rw [hn, w64_of (n := w % 256) (by omega), w64_of (n := w / 256 % 256) (by omega), w64_of (n := w / 65536 % 256) (by omega), w64_of (n := w / 16777216 % 256) (by omega)]
  rw [show isa_Check.f _ _ _ _ _ = some (checkOf _ _ _ _ _) from rfl, Option.bind_some]
  unfold decI
  split <;> rfl
theorem rdecode_f (k : Nat) (w : Int) (h0 : 0 ≤ w) (h : w < 18446744073709551616) : kindlingref03_Decode.f (k + 12) w = some (decI w) := by
  unfold kindlingref03_Decode.f
  simp only [IntKind.wrap_u64]
  rw [Int.tdiv_eq_ediv_of_nonneg h0, Int.tdiv_eq_ediv_of_nonneg h0, Int.tdiv_eq_ediv_of_nonneg h0, Int.tdiv_eq_ediv_of_nonneg h0, Int.tmod_eq_emod_of_nonneg h0,
    show w / 4294967296 % 18446744073709551616 = w / 4294967296 by omega, show w / 256 % 18446744073709551616 = w / 256 by omega, show w / 65536 % 18446744073709551616 = w / 65536 by omega, show w / 16777216 % 18446744073709551616 = w / 16777216 by omega,
    Int.tmod_eq_emod_of_nonneg (by omega), Int.tmod_eq_emod_of_nonneg (by omega), Int.tmod_eq_emod_of_nonneg (by omega),
    w64_of (n := w % 256) (by omega), w64_of (n := w / 256 % 256) (by omega), w64_of (n := w / 65536 % 256) (by omega), w64_of (n := w / 16777216 % 256) (by omega), w64_of (n := w / 4294967296) (by omega),
    w64_of (n := w / 4294967296 - 4294967296) (by omega)]
  unfold decI decN
  by_cases hb : w / 4294967296 ≥ 2147483648
  · rw [if_pos hb, rcheck_f, Option.bind_some, if_pos (show 2147483648 ≤ w / 4294967296 from hb)]
    split <;> rfl
  · rw [if_neg hb, rcheck_f, Option.bind_some, if_neg (show ¬ 2147483648 ≤ w / 4294967296 from hb)]
    split <;> rfl
theorem numT_lit (n : Int) (s : List Int) (h : Num.textOf n = s) : numT n = strOfNums s := by rw [numT, h]
theorem known_f : kindlinglaw03_known.f = some true := by
  have hc : checkOf 7 1 2 3 0 = 0 := right_check ⟨⟨by decide, by decide⟩, by decide, by decide, by decide, by decide, by decide, by decide, by decide, by decide⟩
  have hc2 : checkOf 19 1 2 0 5 = 0 := right_check ⟨⟨by decide, by decide⟩, by decide, by decide, by decide, by decide, by decide, by decide, by decide, by decide⟩
  have t1 : numT 1 = ⟨#[49]⟩ := by rw [numT, Num.textOf, if_neg (by decide), Num.digs, if_pos (by decide)]; rfl
  have t2 : numT 2 = ⟨#[50]⟩ := by rw [numT, Num.textOf, if_neg (by decide), Num.digs, if_pos (by decide)]; rfl
  have t5 : numT 5 = ⟨#[53]⟩ := by rw [numT, Num.textOf, if_neg (by decide), Num.digs, if_pos (by decide)]; rfl
  have ht : isaText 19 1 2 0 5 = ⟨#[102, 105, 101, 108, 100, 32, 114, 49, 32, 114, 50, 32, 53]⟩ := by
    unfold isaText
    rw [if_pos hc2]
    show textAcc 19 1 2 0 5 3 = _
    have e0 : bt (formOf 19) (0 : Nat) = 97 := rfl
    have e1 : bt (formOf 19) (1 : Nat) = 98 := rfl
    have e2 : bt (formOf 19) (2 : Nat) = 110 := rfl
    rw [textAcc, textAcc, textAcc, textAcc, e0, e1, e2]
    unfold piece
    rw [if_pos rfl, if_neg (by decide), if_pos rfl, if_neg (by decide), if_neg (by decide), if_neg (by decide), t1, t2, t5]
    rfl
  unfold kindlinglaw03_known.f
  rw [iencode_f, Option.bind_some, if_pos hc]
  have hw : encW 7 1 2 3 0 = 50462983 := by decide
  rw [hw, if_pos rfl, if_pos rfl]
  unfold isa_Text.f
  rw [if_pos (by decide), Option.bind_some, ht, ByteArray.toList_eq, if_pos rfl]
  rw [show isa_Name.f 30 = some (nameOf 30) from rfl, Option.bind_some, ByteArray.toList_eq]
  rfl
theorem icheck_f (op a b c n : Int) : isa_Check.f op a b c n = some (checkOf op a b c n) := rfl
end Go.Proofs.Ytebjdjdlpmplpaa.Fa
