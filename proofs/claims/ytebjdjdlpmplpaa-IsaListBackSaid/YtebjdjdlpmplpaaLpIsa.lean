/- The plain laws of instructions as text, over what the program's functions compute (the program's side). -/
import Derived.Test.YtebjdjdlpmplpaaTx3
import Derived.Laws.BitsAllLaws
namespace Go.Proofs.Ytebjdjdlpmplpaa.FaT
open Go.RowKit Go.Proofs.Ytebjdjdlpmplpaa.Tx Go.Proofs.Ytebjdjdlpmplpaa.Isa Go.Proofs.YtebjdjdlpmplpaaW.PrintWords Go.Proofs.YtebjdjdlpmplpaaW.PrintLast
theorem i64_of {n : Int} (h : (Lit.int .i64 n).wf = true) : -9223372036854775808 ≤ n ∧ n ≤ 9223372036854775807 := by
  simpa [Lit.wf, IntKind.min, IntKind.max, IntKind.signed, IntKind.bits] using h
theorem u64_of {n : Int} (h : (Lit.int .u64 n).wf = true) : 0 ≤ n ∧ n < 18446744073709551616 := by
  have h : 0 ≤ n ∧ n ≤ 18446744073709551615 := by simpa [Lit.wf, IntKind.min, IntKind.max, IntKind.signed, IntKind.bits] using h
  omega
def opIn (op : Int) : Prop := ¬ op < 1 ∧ ¬ 37 ≤ op
theorem name_out {op : Int} (h : ¬ opIn op) : nameOf op = ⟨#[]⟩ := by
  unfold opIn at h
  unfold nameOf
  by_cases h1 : op < 1
  · rw [if_pos h1]
  · rw [if_neg h1, if_pos (by omega)]
theorem form_out {op : Int} (h : ¬ opIn op) : formOf op = ⟨#[]⟩ := by
  unfold opIn at h
  unfold formOf
  by_cases h1 : op < 1
  · rw [if_pos h1]
  · rw [if_neg h1, if_pos (by omega)]
theorem name_ne {op : Int} (h : opIn op) : ¬ (nameOf op).toList = [] := by
  rw [ByteArray.toList_eq]
  rcases op_cases h.1 h.2 with rfl | rfl | rfl | rfl | rfl | rfl | rfl | rfl | rfl | rfl | rfl | rfl | rfl | rfl | rfl | rfl | rfl | rfl | rfl | rfl | rfl | rfl | rfl | rfl | rfl | rfl | rfl | rfl | rfl | rfl | rfl | rfl | rfl | rfl | rfl | rfl <;> decide
theorem nil_toList : (⟨#[]⟩ : ByteArray).toList = [] := by rw [ByteArray.toList_eq]
theorem check_in {op a b c n : Int} (h : checkOf op a b c n = 0) : opIn op := by
  by_cases hi : opIn op
  · exact hi
  · exfalso
    unfold checkOf at h
    rw [if_pos (by rw [name_out hi]; exact nil_toList)] at h
    exact absurd h (by decide)
/-- What a right instruction is. -/
structure Right (op a b c n : Int) : Prop where
  hop : opIn op
  ha : 0 ≤ a ∧ a ≤ 15
  hb : 0 ≤ b ∧ b ≤ 15
  hc : 0 ≤ c ∧ c ≤ 15
  hn : -2147483648 ≤ n ∧ n ≤ 2147483647
  a0 : hasZ (formOf op) 97 = false → a = 0
  b0 : hasZ (formOf op) 98 = false → b = 0
  c0 : hasZ (formOf op) 99 = false → c = 0
  n0 : hasZ (formOf op) 110 = false → n = 0
theorem check_right {op a b c n : Int} (h : checkOf op a b c n = 0) : Right op a b c n := by
  have hi := check_in h
  unfold checkOf at h
  rw [if_neg (name_ne hi)] at h
  by_cases h1 : hasZ (formOf op) 97 = true ∧ regBad a
  · rw [if_pos h1] at h; exact absurd h (by decide)
  rw [if_neg h1] at h
  by_cases h2 : hasZ (formOf op) 98 = true ∧ regBad b
  · rw [if_pos h2] at h; exact absurd h (by decide)
  rw [if_neg h2] at h
  by_cases h3 : hasZ (formOf op) 99 = true ∧ regBad c
  · rw [if_pos h3] at h; exact absurd h (by decide)
  rw [if_neg h3] at h
  by_cases h4 : nBad (formOf op) n
  · rw [if_pos h4] at h; exact absurd h (by decide)
  rw [if_neg h4] at h
  simp only [remem] at h
  by_cases h5 : hasZ (formOf op) 99 = false ∧ c ≠ 0
  · rw [if_pos (show hasZ (formOf op) (97 + (2 : Nat)) = false ∧ rg a b c 2 ≠ 0 from h5)] at h; exact absurd h (by decide)
  rw [if_neg (show ¬ (hasZ (formOf op) (97 + (2 : Nat)) = false ∧ rg a b c 2 ≠ 0) from h5)] at h
  by_cases h6 : hasZ (formOf op) 98 = false ∧ b ≠ 0
  · rw [if_pos (show hasZ (formOf op) (97 + (1 : Nat)) = false ∧ rg a b c 1 ≠ 0 from h6)] at h; exact absurd h (by decide)
  rw [if_neg (show ¬ (hasZ (formOf op) (97 + (1 : Nat)) = false ∧ rg a b c 1 ≠ 0) from h6)] at h
  by_cases h7 : hasZ (formOf op) 97 = false ∧ a ≠ 0
  · rw [if_pos (show hasZ (formOf op) (97 + (0 : Nat)) = false ∧ rg a b c 0 ≠ 0 from h7)] at h; exact absurd h (by decide)
  have q : ∀ ch x, ¬ (hasZ (formOf op) ch = true ∧ regBad x) → ¬ (hasZ (formOf op) ch = false ∧ x ≠ 0) → (0 ≤ x ∧ x ≤ 15) ∧ (hasZ (formOf op) ch = false → x = 0) := by
    intro ch x p1 p2
    unfold regBad at p1
    cases hh : hasZ (formOf op) ch with
    | true => exact ⟨by have : ¬ (x < 0 ∨ 16 ≤ x) := fun hb => p1 ⟨hh, hb⟩; omega, fun he => by cases he⟩
    | false => have : x = 0 := Decidable.byContradiction fun hx => p2 ⟨hh, hx⟩; exact ⟨by omega, fun _ => this⟩
  obtain ⟨qa, qa0⟩ := q 97 a h1 h7
  obtain ⟨qb, qb0⟩ := q 98 b h2 h6
  obtain ⟨qc, qc0⟩ := q 99 c h3 h5
  unfold nBad at h4
  cases hh : hasZ (formOf op) 110 with
  | true => rw [if_pos hh] at h4; exact ⟨hi, qa, qb, qc, by omega, qa0, qb0, qc0, fun he => by rw [hh] at he; cases he⟩
  | false => rw [if_neg (by rw [hh]; decide)] at h4; exact ⟨hi, qa, qb, qc, by omega, qa0, qb0, qc0, fun _ => by omega⟩
theorem right_check {op a b c n : Int} (h : Right op a b c n) : checkOf op a b c n = 0 := by
  have q : ∀ x, 0 ≤ x ∧ x ≤ 15 → ¬ regBad x := by intro x hx; unfold regBad; omega
  unfold checkOf
  rw [if_neg (name_ne h.hop), if_neg (fun e => q a h.ha e.2), if_neg (fun e => q b h.hb e.2), if_neg (fun e => q c h.hc e.2)]
  have hn : ¬ nBad (formOf op) n := by
    unfold nBad
    split
    · have := h.hn; omega
    · rename_i hh; have := h.n0 (by simpa using hh); omega
  rw [if_neg hn]
  simp only [remem]
  rw [if_neg (show ¬ (hasZ (formOf op) (97 + (2 : Nat)) = false ∧ rg a b c 2 ≠ 0) from fun e => e.2 (h.c0 e.1)), if_neg (show ¬ (hasZ (formOf op) (97 + (1 : Nat)) = false ∧ rg a b c 1 ≠ 0) from fun e => e.2 (h.b0 e.1)), if_neg (show ¬ (hasZ (formOf op) (97 + (0 : Nat)) = false ∧ rg a b c 0 ≠ 0) from fun e => e.2 (h.a0 e.1))]
/-! ### Words -/
theorem or_low (i : Nat) (x y : Int) (hx0 : 0 ≤ x) (hx : x.toNat < 2 ^ i) (hx2 : x < 18446744073709551616) (hy0 : 0 ≤ y) (hyi : y.toNat % 2 ^ i = 0) (hy2 : y < 18446744073709551616) : Go.bits .or .u64 x y = x + y := by
  rw [u64_or x y hx0 hx2 hy0 hy2, Nat.or_comm, nat_join i _ _ hyi hx]
  omega
/-- An instruction's word. -/
def encW (op a b c n : Int) : Int := op + 256 * a + 65536 * b + 16777216 * c + 4294967296 * (n % 4294967296)
theorem iencode_f (op a b c n : Int) : isa_Encode.f op a b c n = some (if checkOf op a b c n = 0 then (encW op a b c n, 0) else (0, checkOf op a b c n)) := by
  unfold isa_Encode.f
  rw [show isa_Check.f op a b c n = some (checkOf op a b c n) from rfl, Option.bind_some]
  by_cases h : checkOf op a b c n = 0
  · rw [if_pos h, if_pos h]
    obtain ⟨⟨h1, h2⟩, ha, hb, hc, hn, _, _, _, _⟩ := check_right h
    congr 2
    simp only [IntKind.wrap_u64]
    rw [show op % 18446744073709551616 = op by omega, show a % 18446744073709551616 = a by omega, show b % 18446744073709551616 = b by omega, show c % 18446744073709551616 = c by omega,
      show a * 256 % 18446744073709551616 = a * 256 by omega, show b * 65536 % 18446744073709551616 = b * 65536 by omega, show c * 16777216 % 18446744073709551616 = c * 16777216 by omega]
    unfold encW
    rw [or_low 8 op (a * 256) (by omega) (by omega) (by omega) (by omega) (by omega) (by omega), or_low 16 _ (b * 65536) (by omega) (by omega) (by omega) (by omega) (by omega) (by omega),
      or_low 24 _ (c * 16777216) (by omega) (by omega) (by omega) (by omega) (by omega) (by omega), or_low 32 _ (n % 4294967296 * 4294967296) (by omega) (by omega) (by omega) (by omega) (by omega) (by omega)]
    omega
  · rw [if_neg h, if_neg h]
theorem numT_lit (n : Int) (s : List Int) (h : Num.textOf n = s) : numT n = strOfNums s := by rw [numT, h]
theorem known_f : kindlinglaw03_known.f = some true := by
  have hc : checkOf 7 1 2 3 0 = 0 := right_check ⟨⟨by decide, by decide⟩, by decide, by decide, by decide, by decide, by decide, by decide, by decide, by decide⟩
  have hc2 : checkOf 19 1 2 0 5 = 0 := right_check ⟨⟨by decide, by decide⟩, by decide, by decide, by decide, by decide, by decide, by decide, by decide, by decide⟩
  have t1 : numT 1 = ⟨#[49]⟩ := by rw [numT, Num.textOf, if_neg (by decide), Num.digs, if_pos (by decide)]; rfl
  have t2 : numT 2 = ⟨#[50]⟩ := by rw [numT, Num.textOf, if_neg (by decide), Num.digs, if_pos (by decide)]; rfl
  have t5 : numT 5 = ⟨#[53]⟩ := by rw [numT, Num.textOf, if_neg (by decide), Num.digs, if_pos (by decide)]; rfl
  have ht : isaText 19 1 2 0 5 = ⟨#[102, 105, 101, 108, 100, 32, 114, 49, 32, 114, 50, 32, 53]⟩ := by
    unfold isaText
    rw [if_pos hc2]
    show textAcc 19 1 2 0 5 3 = _
    have e0 : bt (formOf 19) (0 : Nat) = 97 := rfl
    have e1 : bt (formOf 19) (1 : Nat) = 98 := rfl
    have e2 : bt (formOf 19) (2 : Nat) = 110 := rfl
    rw [textAcc, textAcc, textAcc, textAcc, e0, e1, e2]
    unfold piece
    rw [if_pos rfl, if_neg (by decide), if_pos rfl, if_neg (by decide), if_neg (by decide), if_neg (by decide), t1, t2, t5]
    rfl
  unfold kindlinglaw03_known.f
  rw [iencode_f, Option.bind_some, if_pos hc]
  have hw : encW 7 1 2 3 0 = 50462983 := by decide
  rw [hw, if_pos rfl, if_pos rfl]
  unfold isa_Text.f
  rw [if_pos (by decide), Option.bind_some, ht, ByteArray.toList_eq, if_pos rfl]
  rw [show isa_Name.f 30 = some (nameOf 30) from rfl, Option.bind_some, ByteArray.toList_eq]
  rfl
theorem icheck_f (op a b c n : Int) : isa_Check.f op a b c n = some (checkOf op a b c n) := rfl

/-! ### Words between single blanks -/
def splitW : List Int → List Int → List (List Int)
  | cur, [] => [cur]
  | cur, c :: r => if c = 32 then cur :: splitW [] r else splitW (cur ++ [c]) r
def joinW : List (List Int) → List Int
  | [] => []
  | [w] => w
  | w :: v :: r => w ++ 32 :: joinW (v :: r)
theorem split_ne : ∀ (l cur : List Int), splitW cur l ≠ [] := by
  intro l
  induction l with
  | nil => intro cur; simp [splitW]
  | cons c r ih => intro cur; rw [splitW]; split; · simp
                   · exact ih _
theorem join_cons (w : List Int) (l : List (List Int)) (h : l ≠ []) : joinW (w :: l) = w ++ 32 :: joinW l := by
  cases l with
  | nil => exact absurd rfl h
  | cons v r => rfl
theorem join_split : ∀ (l cur : List Int), joinW (splitW cur l) = cur ++ l := by
  intro l
  induction l with
  | nil => intro cur; simp [splitW, joinW]
  | cons c r ih =>
    intro cur
    rw [splitW]
    split
    · rename_i h
      rw [join_cons _ _ (split_ne _ _), ih, h]; rfl
    · rw [ih, List.append_assoc]; rfl
theorem split_word : ∀ (w cur : List Int), (∀ c ∈ w, c ≠ 32) → splitW cur w = [cur ++ w] := by
  intro w
  induction w with
  | nil => intro cur _; simp [splitW]
  | cons c r ih =>
    intro cur h
    rw [splitW, if_neg (h c (by simp)), ih _ (fun x hx => h x (by simp [hx])), List.append_assoc]; rfl
theorem split_blank : ∀ (w cur r : List Int), (∀ c ∈ w, c ≠ 32) → splitW cur (w ++ 32 :: r) = (cur ++ w) :: splitW [] r := by
  intro w
  induction w with
  | nil => intro cur r _; simp [splitW]
  | cons c q ih =>
    intro cur r h
    rw [List.cons_append, splitW, if_neg (h c (by simp)), ih _ _ (fun x hx => h x (by simp [hx])), List.append_assoc]; rfl
theorem split_join : ∀ (l : List (List Int)), l ≠ [] → (∀ w ∈ l, ∀ c ∈ w, c ≠ 32) → splitW [] (joinW l) = l := by
  intro l
  induction l with
  | nil => intro h; exact absurd rfl h
  | cons w r ih =>
    intro _ h
    cases r with
    | nil => rw [joinW, split_word w [] (h w (by simp))]; rfl
    | cons v q => rw [joinW, split_blank w [] _ (h w (by simp)), ih (by simp) (fun x hx => h x (by simp [hx]))]; rfl
theorem extract_str (s : ByteArray) (a b : Nat) : s.extract a b = strOfNums (((Num.bts s).drop a).take (b - a)) := by
  rw [← Num.str_bts (s.extract a b)]
  congr 1
  have h : (s.extract a b).data = s.data.extract a b := by simp
  unfold Num.bts
  rw [h, Array.toList_extract, List.extract_eq_take_drop, List.map_take, List.map_drop]
def wordsL (s : ByteArray) : List ByteArray := (splitW [] (Num.bts s)).map strOfNums
theorem words_from (s : ByteArray) (hs : s.size < 4611686018427387904) (m : Nat) : ∀ (i fr k : Nat) (acc : List ByteArray), i + m = s.size → fr ≤ i → acc.length + m < 8796093022208 →
    isa_words.l0 (k + m + 2) s acc (fr : Int) (i : Int) = some (acc ++ (splitW (((Num.bts s).drop fr).take (i - fr)) ((Num.bts s).drop i)).map strOfNums) := by
  induction m with
  | zero =>
    intro i fr k acc h hf ha
    rw [isa_words.l0, if_pos (by omega), if_pos (by omega), if_pos (by omega), if_pos (by omega), if_pos (by omega)]
    have hw : wrap64 ((i : Int) + 1) = ((i + 1 : Nat) : Int) := by unfold wrap64; omega
    rw [hw, isa_words.l0, if_neg (by omega), List.drop_of_length_le (i := i) (by rw [Num.bts_length]; omega), splitW, Int.toNat_natCast, Int.toNat_natCast, extract_str]
    rfl
  | succ m ih =>
    intro i fr k acc h hf ha
    have hi : i < s.size := by omega
    have hd : (Num.bts s).drop i = bt s i :: (Num.bts s).drop (i + 1) := by
      rw [bt_bts s i hi]; exact List.drop_eq_getElem_cons _
    have hw : wrap64 ((i : Int) + 1) = ((i + 1 : Nat) : Int) := by unfold wrap64; omega
    rw [show k + (m + 1) + 2 = (k + m + 2) + 1 from rfl, isa_words.l0, if_pos (by omega), if_neg (by omega), if_pos (by omega), if_pos (by omega), hd, splitW]
    by_cases hc : bt s (i : Int) = 32
    · rw [if_pos hc, if_pos hc, if_pos (by omega), if_pos (by omega), if_pos (by omega), hw, ih (i + 1) (i + 1) k _ (by omega) (by omega) (by simp; omega), Int.toNat_natCast, Int.toNat_natCast, extract_str]
      simp
    · rw [if_neg hc, if_neg hc, hw, ih (i + 1) fr k _ (by omega) (by omega) (by omega)]
      congr 3
      have hl : i < (Num.bts s).length := by rw [Num.bts_length]; exact hi
      rw [show i + 1 - fr = (i - fr) + 1 by omega, List.take_add_one, List.getElem?_drop, show fr + (i - fr) = i by omega, List.getElem?_eq_getElem hl, ← bt_bts s i hi]
      rfl
theorem words_f (s : ByteArray) (hs : s.size ≤ 1000000) (k : Nat) : isa_words.f (k + s.size + 2) s = some (wordsL s) := by
  unfold isa_words.f wordsL
  have := words_from s (by omega) s.size 0 0 k [] (by omega) (by omega) (by simp; omega)
  simpa using this
end Go.Proofs.Ytebjdjdlpmplpaa.FaT
