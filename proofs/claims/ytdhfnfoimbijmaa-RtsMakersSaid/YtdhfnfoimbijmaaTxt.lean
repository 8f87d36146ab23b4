/- Texts as words and back, in plain lists; and what num.Unpack and the reference's comparison compute. -/
import Derived.Test.YtdhfnfoimbijmaaPa3
import Derived.Test.YtdhfnfoimbijmaaNum
namespace Go.Proofs.Ytdhfnfoimbijmaa.Fa
open Go.RowKit Go.Proofs.Ytdhfnfoimbijmaa.Pa Go.Proofs.YtdhfnfoimbijmaaW.PrintWords Go.Proofs.YtdhfnfoimbijmaaW.PrintLast
open Num (wval byteB bts word chunk upto eachL)

def u64 (n : Int) : Prop := 0 ≤ n ∧ n < 18446744073709551616
def i64 (n : Int) : Prop := -9223372036854775808 ≤ n ∧ n ≤ 9223372036854775807
theorem w64 (n : Int) : wrap64 n = (n + 9223372036854775808) % 18446744073709551616 - 9223372036854775808 := by
  unfold wrap64; omega
theorem w64_of {n : Int} (h : -9223372036854775808 ≤ n ∧ n ≤ 9223372036854775807) : wrap64 n = n := by rw [w64]; omega
/-- The bytes of a word. -/
def bytes8 (w : Int) : List Int := [w % 256, w / 256 % 256, w / 65536 % 256, w / 16777216 % 256, w / 4294967296 % 256, w / 1099511627776 % 256, w / 281474976710656 % 256, w / 72057594037927936 % 256]
/-- The bytes of words. -/
def ub (l : List Int) : List Int := l.flatMap bytes8
theorem ub_cons (w : Int) (l : List Int) : ub (w :: l) = bytes8 w ++ ub l := by simp [ub]
theorem bytes8_length (w : Int) : (bytes8 w).length = 8 := rfl
theorem ub_length (l : List Int) : (ub l).length = 8 * l.length := by
  induction l with
  | nil => rfl
  | cons w l ih => rw [ub_cons, List.length_append, bytes8_length, ih, List.length_cons]; omega
/-- The words of bytes. -/
def packR (l : List Int) : List Int := if l.length = 0 then [] else wval (l.take 8) :: packR (l.drop 8)
termination_by l.length
decreasing_by simp; omega
theorem packR_nil : packR [] = [] := by rw [packR]; rfl
theorem packR_pos {l : List Int} (h : 0 < l.length) : packR l = wval (l.take 8) :: packR (l.drop 8) := by rw [packR, if_neg (by omega)]
theorem packR_length (n : Nat) : ∀ l : List Int, l.length ≤ n → (packR l).length = (l.length + 7) / 8 := by
  induction n with
  | zero => intro l h; obtain rfl : l = [] := List.eq_nil_of_length_eq_zero (by omega); rw [packR_nil]; rfl
  | succ n ih =>
    intro l h
    rcases Nat.eq_zero_or_pos l.length with h0 | h0
    · obtain rfl : l = [] := List.eq_nil_of_length_eq_zero h0; rw [packR_nil]; rfl
    · rw [packR_pos h0, List.length_cons, ih _ (by simp; omega)]; simp; omega
theorem words_packR (n : Nat) : ∀ l : List Int, l.length ≤ n → (List.range ((l.length + 7) / 8)).map (word l) = packR l := by
  induction n with
  | zero => intro l h; obtain rfl : l = [] := List.eq_nil_of_length_eq_zero (by omega); rw [packR_nil]; rfl
  | succ n ih =>
    intro l h
    rcases Nat.eq_zero_or_pos l.length with h0 | h0
    · obtain rfl : l = [] := List.eq_nil_of_length_eq_zero h0; rw [packR_nil]; rfl
    · rw [packR_pos h0, ← ih (l.drop 8) (by simp; omega)]
      obtain ⟨m, hm⟩ : ∃ m, (l.length + 7) / 8 = m + 1 := ⟨(l.length + 7) / 8 - 1, by omega⟩
      rw [hm, List.range_succ_eq_map, List.map_cons, List.map_map]
      congr 1
      rw [show ((l.drop 8).length + 7) / 8 = m by simp; omega]
      apply List.map_congr_left
      intro j _
      simp only [Function.comp, word, chunk, List.drop_drop]
      rw [show 8 + 8 * j = 8 * (j + 1) by omega]
theorem wval_bytes8 {w : Int} (h : u64 w) : wval (bytes8 w) = w := by
  simp only [bytes8, wval]; unfold u64 at h; omega
theorem bytes8_byte (w : Int) : byteB (bytes8 w) := by
  intro x hx; simp [bytes8] at hx; rcases hx with rfl | rfl | rfl | rfl | rfl | rfl | rfl | rfl <;> omega
theorem bytes8_wval : ∀ (l : List Int), byteB l → l.length ≤ 8 → bytes8 (wval l) = l ++ List.replicate (8 - l.length) 0
  | [], _, _ => by decide
  | [a], h, _ => by have := h a (by simp); simp [wval, bytes8]; omega
  | [a, b], h, _ => by have := h a (by simp); have := h b (by simp); simp [wval, bytes8]; omega
  | [a, b, c], h, _ => by have := h a (by simp); have := h b (by simp); have := h c (by simp); simp [wval, bytes8]; omega
  | [a, b, c, d], h, _ => by have := h a (by simp); have := h b (by simp); have := h c (by simp); have := h d (by simp); simp [wval, bytes8]; omega
  | [a, b, c, d, e], h, _ => by have := h a (by simp); have := h b (by simp); have := h c (by simp); have := h d (by simp); have := h e (by simp); simp [wval, bytes8]; omega
  | [a, b, c, d, e, f], h, _ => by have := h a (by simp); have := h b (by simp); have := h c (by simp); have := h d (by simp); have := h e (by simp); have := h f (by simp); simp [wval, bytes8]; omega
  | [a, b, c, d, e, f, g], h, _ => by have := h a (by simp); have := h b (by simp); have := h c (by simp); have := h d (by simp); have := h e (by simp); have := h f (by simp); have := h g (by simp); simp [wval, bytes8]; omega
  | [a, b, c, d, e, f, g, i], h, _ => by have := h a (by simp); have := h b (by simp); have := h c (by simp); have := h d (by simp); have := h e (by simp); have := h f (by simp); have := h g (by simp); have := h i (by simp); simp [wval, bytes8]; omega
  | _ :: _ :: _ :: _ :: _ :: _ :: _ :: _ :: _ :: _, _, hl => by simp at hl
theorem ub_packR (n : Nat) : ∀ l : List Int, l.length ≤ n → byteB l → ub (packR l) = l ++ List.replicate (8 * ((l.length + 7) / 8) - l.length) 0 := by
  induction n with
  | zero => intro l h _; obtain rfl : l = [] := List.eq_nil_of_length_eq_zero (by omega); rw [packR_nil]; rfl
  | succ n ih =>
    intro l h hb
    rcases Nat.eq_zero_or_pos l.length with h0 | h0
    · obtain rfl : l = [] := List.eq_nil_of_length_eq_zero h0; rw [packR_nil]; rfl
    · rw [packR_pos h0, ub_cons, bytes8_wval _ (hb.take 8) (by simp; omega), ih _ (by simp; omega) (hb.drop 8)]
      by_cases h8 : l.length ≤ 8
      · rw [List.take_of_length_le h8, List.drop_of_length_le h8]
        simp
        congr 1; omega
      · rw [List.length_take, Nat.min_eq_left (by omega)]
        simp only [Nat.sub_self, List.replicate_zero, List.append_nil]
        rw [← List.append_assoc, List.take_append_drop]
        congr 2; simp; omega
theorem packR_ub : ∀ (l : List Int) (n : Nat), (∀ w ∈ l, u64 w) → n ≤ 8 * l.length → 8 * l.length ≤ n + 7 → (∀ x ∈ (ub l).drop n, x = 0) → packR ((ub l).take n) = l
  | [], n, _, hn, _, _ => by
    obtain rfl : n = 0 := by simpa using hn
    rw [List.take_zero, packR_nil]
  | w :: l, n, hw, hn, hn2, hz => by
    simp only [List.length_cons] at hn hn2
    have hu := hw w (by simp)
    by_cases h8 : 8 ≤ n
    · have hlen : 0 < ((ub (w :: l)).take n).length := by rw [List.length_take, ub_length]; simp; omega
      have e : (ub (w :: l)).take n = bytes8 w ++ (ub l).take (n - 8) := by
        rw [ub_cons, List.take_append, bytes8_length]
        congr 1
        exact List.take_of_length_le (by rw [bytes8_length]; exact h8)
      rw [packR_pos hlen, e]
      rw [List.take_left' (bytes8_length w), List.drop_left' (bytes8_length w), wval_bytes8 hu]
      rw [packR_ub l (n - 8) (fun x hx => hw x (by simp [hx])) (by omega) (by omega) ?_]
      intro x hx
      refine hz x ?_
      rw [ub_cons, List.drop_append, bytes8_length, List.drop_of_length_le (by rw [bytes8_length]; omega), List.nil_append]
      exact hx
    · have hl : l = [] := List.eq_nil_of_length_eq_zero (by omega)
      subst hl
      have e : ub [w] = bytes8 w := by simp [ub]
      rw [e] at hz ⊢
      have hlen : 0 < ((bytes8 w).take n).length := by rw [List.length_take, bytes8_length]; omega
      rw [packR_pos hlen, List.take_of_length_le (by rw [List.length_take, bytes8_length]; omega), List.drop_of_length_le (by rw [List.length_take, bytes8_length]; omega), packR_nil]
      congr 1
      have hh := wval_bytes8 hu
      have hn' : n = 1 ∨ n = 2 ∨ n = 3 ∨ n = 4 ∨ n = 5 ∨ n = 6 ∨ n = 7 := by omega
      rcases hn' with rfl | rfl | rfl | rfl | rfl | rfl | rfl <;> simp [bytes8, wval] at hz hh ⊢ <;> omega

/-! ### What num.Unpack computes -/
theorem ub_get : ∀ (l : List Int) (i : Nat), i < 8 * l.length → (∀ w ∈ l, u64 w) → (ub l)[i]? = some ((l.getD (i / 8) 0) / 2 ^ (i % 8 * 8) % 256)
  | [], i, h, _ => by simp at h
  | w :: l, i, h, hw => by
    have hu := hw w (by simp)
    rw [ub_cons]
    by_cases h8 : i < 8
    · rw [List.getElem?_append_left (by rw [bytes8_length]; exact h8)]
      have : i = 0 ∨ i = 1 ∨ i = 2 ∨ i = 3 ∨ i = 4 ∨ i = 5 ∨ i = 6 ∨ i = 7 := by omega
      rcases this with rfl | rfl | rfl | rfl | rfl | rfl | rfl | rfl <;> simp [bytes8]
    · rw [List.getElem?_append_right (by rw [bytes8_length]; omega), bytes8_length, ub_get l (i - 8) (by simp at h; omega) (fun x hx => hw x (by simp [hx]))]
      obtain ⟨j, rfl⟩ : ∃ j, i = j + 8 := ⟨i - 8, by omega⟩
      rw [show j + 8 - 8 = j by omega, show (j + 8) / 8 = j / 8 + 1 by omega, show (j + 8) % 8 = j % 8 by omega]
      simp [List.getD]
theorem take_set_get {α : Type} (l : List α) (z : List α) (i : Nat) (v : α) (h : l[i]? = some v) (hz : z.length = l.length - i) : (l.take i ++ z).set i v = l.take (i + 1) ++ z.drop 1 := by
  have hi : i < l.length := (List.getElem?_eq_some_iff.1 h).1
  obtain ⟨a, z', rfl⟩ : ∃ a z', z = a :: z' := by
    cases z with
    | nil => simp at hz; omega
    | cons a z' => exact ⟨a, z', rfl⟩
  rw [List.set_append_right _ _ (by rw [List.length_take]; omega), List.length_take, Nat.min_eq_left (by omega), Nat.sub_self, List.set_cons_zero, List.take_add_one, h]
  simp
theorem unpack_l0 (l : List Int) (hl : l.length ≤ 17592186044416) (hw : ∀ w ∈ l, u64 w) (n : Int) (d : Nat) : ∀ (k i : Nat), i + d = 8 * l.length → d < k → ∃ k', k ≤ k' + d + 1 ∧ k' < k ∧
    num_Unpack.l0 k l n ((ub l).take i ++ List.replicate d 0) ((8 * l.length : Nat) : Int) (i : Int) =
      (if 0 ≤ n then (if n ≤ ((ub l).length : Int) then num_Unpack.l1 k' n (ub l) ((ub l).drop n.toNat) (((ub l).drop n.toNat).length : Int) 0 else none) else none) := by
  induction d with
  | zero =>
    intro k i hi hk
    obtain ⟨k, rfl⟩ : ∃ m, k = m + 1 := ⟨k - 1, by omega⟩
    refine ⟨k, by omega, by omega, ?_⟩
    rw [List.replicate_zero, List.append_nil, List.take_of_length_le (by rw [ub_length]; omega)]
    simp only [num_Unpack.l0]
    rw [if_neg (by omega)]
    rfl
  | succ d ih =>
    intro k i hi hk
    obtain ⟨k, rfl⟩ : ∃ m, k = m + 1 := ⟨k - 1, by omega⟩
    obtain ⟨k', h1, h2, h3⟩ := ih k (i + 1) (by omega) (by omega)
    refine ⟨k', by omega, by omega, ?_⟩
    rw [← h3]
    have e1 : wrap64 (Int.tdiv (i : Int) 8) = ((i / 8 : Nat) : Int) := by rw [Int.tdiv_eq_ediv_of_nonneg (by omega), w64_of (by omega)]; omega
    have e2 : wrap64 (Int.tmod (i : Int) 8 * 8) = ((i % 8 * 8 : Nat) : Int) := by rw [Int.tmod_eq_emod_of_nonneg (by omega), w64_of (by omega)]; omega
    have e3 : wrap64 ((i : Int) + 1) = ((i + 1 : Nat) : Int) := by rw [w64_of (by omega)]; omega
    have hlen : ((ub l).take i ++ List.replicate (d + 1) 0).length = 8 * l.length := by
      rw [List.length_append, List.length_take, ub_length, List.length_replicate]; omega
    have hsh : shr .u64 (rd l ((i / 8 : Nat) : Int)) ((i % 8 * 8 : Nat) : Int) % 256 = (l.getD (i / 8) 0) / 2 ^ (i % 8 * 8) % 256 := by
      have hb : i % 8 * 8 ≤ IntKind.u64.bits := Nat.le_trans (show i % 8 * 8 ≤ 56 by omega) (by decide)
      unfold shr rd
      rw [Int.toNat_natCast, Int.toNat_natCast, Nat.min_eq_left hb]
    simp only [num_Unpack.l0]
    rw [if_pos (by omega), e1, if_pos (by omega), if_pos (by omega), e2, if_pos (by omega), if_pos (by omega), if_pos (by rw [hlen]; omega), hsh, e3, Int.toNat_natCast]
    rw [take_set_get (ub l) _ i _ (ub_get l i (by omega) hw) (by rw [List.length_replicate, ub_length]; omega)]
    rw [List.drop_replicate]
    rfl
theorem unpack_l1 (n : Int) (b : List Int) (hn : 0 ≤ n) (hn2 : n ≤ b.length) (t : List Int) (ht : t.length ≤ 1000000000000000) (d : Nat) : ∀ (k i : Nat), i + d = t.length → d < k →
    num_Unpack.l1 k n b t (t.length : Int) (i : Int) = some (if ∀ x ∈ t.drop i, x = 0 then (strOfNums (b.take n.toNat), 0) else (⟨#[]⟩, 1)) := by
  induction d with
  | zero =>
    intro k i hi hk
    obtain ⟨k, rfl⟩ : ∃ m, k = m + 1 := ⟨k - 1, by omega⟩
    rw [if_pos (by rw [List.drop_of_length_le (by omega)]; simp)]
    simp only [num_Unpack.l1]
    rw [if_neg (by omega), if_pos hn, if_pos hn2]
  | succ d ih =>
    intro k i hi hk
    obtain ⟨k, rfl⟩ : ∃ m, k = m + 1 := ⟨k - 1, by omega⟩
    have e3 : wrap64 ((i : Int) + 1) = ((i + 1 : Nat) : Int) := by rw [w64_of (by omega)]; omega
    simp only [num_Unpack.l1]
    rw [if_pos (by omega), if_pos (by omega), if_pos (by omega), e3, ih k (i + 1) (by omega) (by omega)]
    have hdr : t.drop i = t[i]'(by omega) :: t.drop (i + 1) := List.drop_eq_getElem_cons (by omega)
    have hrd : rd t (i : Int) = t[i]'(by omega) := by unfold rd; rw [Int.toNat_natCast]; simp [List.getD]; rw [List.getElem?_eq_getElem (by omega)]; rfl
    rw [hrd, hdr]
    by_cases h0 : t[i]'(by omega) = 0
    · rw [if_pos h0]
      congr 1
      simp only [List.mem_cons, forall_eq_or_imp, h0, true_and]
    · rw [if_neg h0, if_neg]
      intro h; exact h0 (h _ List.mem_cons_self)
/-- The text of n bytes whose words l are. -/
def unp (l : List Int) (n : Int) : ByteArray × Int :=
  if 0 ≤ n ∧ n ≤ 8 * l.length ∧ 8 * l.length ≤ n + 7 ∧ ∀ x ∈ (ub l).drop n.toNat, x = 0 then (strOfNums ((ub l).take n.toNat), 0) else (⟨#[]⟩, 1)
theorem unpack_f (l : List Int) (n : Int) (hl : l.length ≤ 17592186044416) (hw : ∀ w ∈ l, u64 w) (hn : i64 n) (k : Nat) (hk : 16 * l.length + 4 ≤ k) : num_Unpack.f k l n = some (unp l n) := by
  simp only [i64] at hn
  obtain ⟨k, rfl⟩ : ∃ m, k = m + 1 := ⟨k - 1, by omega⟩
  have e1 : wrap64 (8 * (l.length : Int)) = ((8 * l.length : Nat) : Int) := by rw [w64_of (by omega)]; omega
  have hbad : num_Unpack.j0 (k + 1) l n true = some (⟨#[]⟩, 1) := by simp only [num_Unpack.j0, if_true]
  unfold num_Unpack.f unp
  rw [e1]
  by_cases h0 : n < 0
  · rw [if_pos h0, hbad, if_neg (by omega)]
  · rw [if_neg h0]
    by_cases h1 : n > ((8 * l.length : Nat) : Int)
    · rw [if_pos h1, hbad, if_neg (by omega)]
    · rw [if_neg h1]
      have e2 : wrap64 (n + 7) = n + 7 := w64_of (by omega)
      rw [e2]
      by_cases h2 : n + 7 < ((8 * l.length : Nat) : Int)
      · rw [decide_eq_true h2, hbad, if_neg (by omega)]
      · rw [decide_eq_false h2]
        simp only [num_Unpack.j0, Bool.false_eq_true, if_false]
        obtain ⟨k', h3, h4, h5⟩ := unpack_l0 l hl hw n (8 * l.length) k 0 (by omega) (by omega)
        rw [e1, if_pos (by omega), if_pos (by omega)]
        simp only [Option.bind_some, Int.toNat_natCast, List.length_replicate]
        rw [List.take_zero, List.nil_append, Int.natCast_zero] at h5
        rw [h5, if_pos (by omega), if_pos (by rw [ub_length]; omega)]
        have h6 := unpack_l1 n (ub l) (by omega) (by rw [ub_length]; omega) ((ub l).drop n.toNat) (by rw [List.length_drop, ub_length]; omega) ((ub l).drop n.toNat).length k' 0 (by omega) (by rw [List.length_drop, ub_length]; omega)
        rw [Int.natCast_zero, List.drop_zero] at h6
        rw [h6]
        congr 1
        by_cases hz : ∀ x ∈ (ub l).drop n.toNat, x = 0
        · rw [if_pos hz, if_pos ⟨by omega, by omega, by omega, hz⟩]
        · rw [if_neg hz, if_neg (fun h => hz h.2.2.2)]
theorem str_bts (s : ByteArray) : strOfNums (bts s) = s := by
  obtain ⟨d⟩ := s
  unfold strOfNums bts
  congr 1
  apply Array.ext'
  show List.map _ (List.map _ d.toList) = d.toList
  rw [List.map_map]
  conv => rhs; rw [← List.map_id d.toList]
  apply List.map_congr_left
  intro b _
  simp [Function.comp]
theorem bts_str (l : List Int) (h : byteB l) : bts (strOfNums l) = l := by
  unfold bts
  rw [strOfNums_data, List.map_map]
  conv => rhs; rw [← List.map_id l]
  apply List.map_congr_left
  intro b hb
  have := h b hb
  simp only [Function.comp, id]
  rw [UInt8.toNat_ofNat']
  omega
theorem bts_inj {s t : ByteArray} (h : bts s = bts t) : s = t := by rw [← str_bts s, h, str_bts]
theorem wval_u64 {l : List Int} (h : byteB l) (hl : l.length ≤ 8) : u64 (wval l) := by
  have := Num.wval_range l h
  have e : (256 : Int) ^ l.length ≤ 256 ^ 8 := by
    have : l.length = 0 ∨ l.length = 1 ∨ l.length = 2 ∨ l.length = 3 ∨ l.length = 4 ∨ l.length = 5 ∨ l.length = 6 ∨ l.length = 7 ∨ l.length = 8 := by omega
    rcases this with h | h | h | h | h | h | h | h | h <;> rw [h] <;> decide
  rw [show (256 : Int) ^ 8 = 18446744073709551616 by decide] at e
  unfold u64; omega
theorem packR_u64 (n : Nat) : ∀ l : List Int, l.length ≤ n → byteB l → ∀ w ∈ packR l, u64 w := by
  induction n with
  | zero => intro l h _; obtain rfl : l = [] := List.eq_nil_of_length_eq_zero (by omega); rw [packR_nil]; simp
  | succ n ih =>
    intro l h hb
    rcases Nat.eq_zero_or_pos l.length with h0 | h0
    · obtain rfl : l = [] := List.eq_nil_of_length_eq_zero h0; rw [packR_nil]; simp
    · rw [packR_pos h0]
      intro w hw
      rcases List.mem_cons.1 hw with rfl | hw
      · exact wval_u64 (hb.take 8) (by simp; omega)
      · exact ih _ (by simp; omega) (hb.drop 8) w hw
/-- The words of a text. -/
def PK (s : ByteArray) : List Int := packR (bts s)
theorem PK_length (s : ByteArray) : (PK s).length = (s.size + 7) / 8 := by rw [PK, packR_length _ _ (Nat.le_refl _), Num.bts_length]
theorem PK_u64 (s : ByteArray) : ∀ w ∈ PK s, u64 w := packR_u64 _ _ (Nat.le_refl _) (Num.bts_byte s)
theorem unp_PK (s : ByteArray) : unp (PK s) (s.size : Int) = (s, 0) := by
  have hl := PK_length s
  have hu : ub (PK s) = bts s ++ List.replicate (8 * ((s.size + 7) / 8) - s.size) 0 := by
    rw [PK, ub_packR _ _ (Nat.le_refl _) (Num.bts_byte s), Num.bts_length]
  unfold unp
  have hz : ∀ x ∈ (bts s ++ List.replicate (8 * ((s.size + 7) / 8) - s.size) 0).drop s.size, x = 0 := by
    rw [List.drop_left' (Num.bts_length s)]
    intro x hx
    exact (List.mem_replicate.1 hx).2
  rw [Int.toNat_natCast, hu, if_pos ⟨by omega, by omega, by omega, hz⟩, List.take_left' (Num.bts_length s), str_bts]

end Go.Proofs.Ytdhfnfoimbijmaa.Fa
