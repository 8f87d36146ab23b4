/- What kindlingref01.Pack and kindlingref01.Unpack compute: the words of a text, and the text of the words, or none. -/
import Derived.Test.YtljbkonhailamaaPk2
import Derived.Test.YtljbkonhailamaaTexts
namespace Go.Proofs.Ytljbkonhailamaa.Fp
open Go.RowKit Go.Proofs.YtljbkonhailamaaW.PrintWords Go.Proofs.YtljbkonhailamaaW.PrintLast Go.Proofs.YtljbkonhailamaaW.PrintMore Go.Proofs.Ytljbkonhailamaa.Pk
open Num (bts byteB wval) 
open Fa

theorem same_l0 (a b : List Int) (hab : a.length = b.length) (hl : a.length ≤ 1000000000000000) (d : Nat) : ∀ (k i : Nat), i + d = a.length → d < k → a.take i = b.take i →
    kindlingref01_SameWords.l0 k a b (i : Int) = some (decide (a = b)) := by
  induction d with
  | zero =>
    intro k i hi hk he
    obtain ⟨k, rfl⟩ : ∃ m, k = m + 1 := ⟨k - 1, by omega⟩
    simp only [kindlingref01_SameWords.l0]
    rw [if_neg (by omega), decide_eq_true]
    rw [List.take_of_length_le (by omega), List.take_of_length_le (by omega)] at he
    exact he
  | succ d ih =>
    intro k i hi hk he
    obtain ⟨k, rfl⟩ : ∃ m, k = m + 1 := ⟨k - 1, by omega⟩
    have e3 : wrap64 ((i : Int) + 1) = ((i + 1 : Nat) : Int) := by rw [w64_of (by omega)]; omega
    have ra : rd a (i : Int) = a[i]'(by omega) := by unfold rd; rw [Int.toNat_natCast]; simp [List.getD]; rw [List.getElem?_eq_getElem (by omega)]; rfl
    have rb : rd b (i : Int) = b[i]'(by omega) := by unfold rd; rw [Int.toNat_natCast]; simp [List.getD]; rw [List.getElem?_eq_getElem (by omega)]; rfl
    simp only [kindlingref01_SameWords.l0]
    rw [if_pos (by omega), if_pos (by omega), if_pos (by omega), ra, rb, e3]
    by_cases h : a[i]'(by omega) = b[i]'(by omega)
    · rw [if_pos h, ih k (i + 1) (by omega) (by omega)]
      rw [List.take_add_one, List.take_add_one, he, List.getElem?_eq_getElem (by omega), List.getElem?_eq_getElem (by omega), h]
    · rw [if_neg h, decide_eq_false]
      intro hh; subst hh; exact h rfl
theorem same_f (a b : List Int) (hl : a.length ≤ 1000000000000000) (k : Nat) (hk : a.length + 1 ≤ k) : kindlingref01_SameWords.f k a b = some (decide (a = b)) := by
  unfold kindlingref01_SameWords.f
  by_cases h : (a.length : Int) = (b.length : Int)
  · rw [if_pos h]
    have := same_l0 a b (by omega) hl a.length k 0 (by omega) (by omega) rfl
    rw [Int.natCast_zero] at this
    exact this
  · rw [if_neg h, decide_eq_false]
    intro hh; subst hh; exact h rfl

/-! ### One byte more -/
theorem packR_one (b : Int) : packR [b] = [b] := by
  rw [packR_pos (by simp)]
  simp [packR_nil, wval]
theorem packR_new (n : Nat) : ∀ (l : List Int) (b : Int), l.length ≤ n → l.length % 8 = 0 → packR (l ++ [b]) = packR l ++ [b] := by
  induction n with
  | zero =>
    intro l b hn h
    obtain rfl : l = [] := List.eq_nil_of_length_eq_zero (by omega)
    rw [packR_nil, List.nil_append, packR_one]
  | succ n ih =>
    intro l b hn h
    by_cases h0 : l.length = 0
    · obtain rfl : l = [] := List.eq_nil_of_length_eq_zero h0
      rw [packR_nil, List.nil_append, packR_one]
    · have h8 : 8 ≤ l.length := by omega
      rw [packR_pos (by simp), packR_pos (l := l) (by omega), List.take_append_of_le_length h8, List.drop_append_of_le_length h8, ih (l.drop 8) b (by rw [List.length_drop]; omega) (by rw [List.length_drop]; omega), List.cons_append]
theorem wval_snoc (l : List Int) (b : Int) : wval (l ++ [b]) = wval l + b * 256 ^ l.length := by
  induction l with
  | nil => simp [wval]
  | cons a t ih => simp only [List.cons_append, wval, ih, List.length_cons, Int.pow_succ, Int.mul_add, Int.mul_comm, Int.mul_left_comm, Int.add_assoc]
def last (l : List Int) : Int := l.getD (l.length - 1) 0
theorem packR_old (n : Nat) : ∀ (l : List Int) (b : Int), l.length ≤ n → l.length % 8 ≠ 0 → packR (l ++ [b]) = (packR l).set ((packR l).length - 1) (last (packR l) + b * 256 ^ (l.length % 8)) := by
  induction n with
  | zero =>
    intro l b hn h
    omega
  | succ n ih =>
    intro l b hn h
    by_cases h8 : 8 ≤ l.length
    · have hd : (l.drop 8).length = l.length - 8 := List.length_drop
      have hp : 0 < (packR (l.drop 8)).length := by rw [packR_length _ _ (Nat.le_refl _), hd]; omega
      rw [packR_pos (by simp), packR_pos (l := l) (by omega), List.take_append_of_le_length h8, List.drop_append_of_le_length h8, ih (l.drop 8) b (by rw [hd]; omega) (by rw [hd]; omega)]
      obtain ⟨m, hm⟩ : ∃ m, (packR (l.drop 8)).length = m + 1 := ⟨_, (Nat.succ_pred_eq_of_pos hp).symm⟩
      unfold last
      rw [List.length_cons, hm, show m + 1 + 1 - 1 = m + 1 by omega, show m + 1 - 1 = m by omega, List.set_cons_succ, List.getD_cons_succ, hd, show (l.length - 8) % 8 = l.length % 8 by omega]
    · have ht : l.take 8 = l := List.take_of_length_le (by omega)
      have hd : l.drop 8 = [] := List.drop_of_length_le (by omega)
      have hl : (l ++ [b]).length = l.length + 1 := by simp
      rw [packR_pos (by simp), packR_pos (l := l) (by omega), ht, hd, packR_nil, List.take_of_length_le (by omega), List.drop_of_length_le (by omega), packR_nil, wval_snoc, show l.length % 8 = l.length by omega]
      simp [last]
theorem last_u64 {l : List Int} (h : ∀ w ∈ l, u64 w) (hp : 0 < l.length) : u64 (last l) := by
  unfold last
  rw [List.getD, List.getElem?_eq_getElem (by omega)]
  exact h _ (List.getElem_mem _)
theorem getD_last (l : List Int) : last l = l.getD (l.length - 1) 0 := rfl
theorem shl8 (b : Int) (m : Nat) (hm : m ≤ 7) (hb : 0 ≤ b ∧ b < 256) : shl .u64 b ((8 * m : Nat) : Int) = b * 256 ^ m := by
  have hbits : 8 * m ≤ IntKind.u64.bits := Nat.le_trans (show 8 * m ≤ 56 by omega) (by decide)
  unfold shl
  rw [Int.toNat_natCast, Nat.min_eq_left hbits, IntKind.wrap_u64]
  have : m = 0 ∨ m = 1 ∨ m = 2 ∨ m = 3 ∨ m = 4 ∨ m = 5 ∨ m = 6 ∨ m = 7 := by omega
  rcases this with rfl | rfl | rfl | rfl | rfl | rfl | rfl | rfl <;> simp <;> omega
theorem bt_get (s : ByteArray) (i : Nat) (h : i < s.size) : bt s (i : Int) = (bts s)[i]'(by rw [Num.bts_length]; exact h) := by
  unfold bt
  simp only [Int.toNat_natCast]
  rw [dif_pos h, Num.bts_get s i h]
theorem take_byte (s : ByteArray) (i : Nat) : byteB ((bts s).take i) := (Num.bts_byte s).take i
/-- One round, whatever the words are so far. -/
theorem pack_round (k : Nat) (s : ByteArray) (hs : s.size ≤ 140737488351232) (i : Nat) (hi : i < s.size) (P : List Int) (b : Int) (hpl : P.length = (i + 7) / 8) (hbyte : 0 ≤ b ∧ b < 256) (hwb : IntKind.u64.wrap (bt s (i : Int)) = b)
    (hu : i % 8 ≠ 0 → u64 (last P + b * 256 ^ (i % 8))) :
    kindlingref01_Pack.l0 (k + 1) s P (i : Int) = kindlingref01_Pack.l0 k s (if i % 8 = 0 then P ++ [b] else P.set (P.length - 1) (last P + b * 256 ^ (i % 8))) ((i + 1 : Nat) : Int) := by
  have e1 : Int.tmod (i : Int) 8 = ((i % 8 : Nat) : Int) := by rw [Int.tmod_eq_emod_of_nonneg (by omega)]; omega
  have e2 : IntKind.u64.wrap (wrap64 (8 * ((i % 8 : Nat) : Int))) = ((8 * (i % 8) : Nat) : Int) := by rw [w64_of (by omega), IntKind.wrap_u64]; omega
  have e3 : wrap64 ((i : Int) + 1) = ((i + 1 : Nat) : Int) := by rw [w64_of (by omega)]; omega
  have hm7 : i % 8 ≤ 7 := Nat.le_of_lt_succ (Nat.mod_lt i (by decide))
  have e5 := shl8 b (i % 8) hm7 hbyte
  simp only [kindlingref01_Pack.l0]
  rw [if_pos (by omega), e1, e2, hwb, e5, e3]
  by_cases hm : i % 8 = 0
  · have hq : ((P ++ [0]).length : Int) = (P.length : Int) + 1 := by simp
    have e4 : wrap64 (((P ++ [0]).length : Int) - 1) = (P.length : Int) := by rw [hq, w64_of (by omega)]; omega
    rw [if_pos (by omega), if_pos (by omega), Option.bind_some, e4, if_pos (by omega), if_pos (by omega), if_pos (by omega), if_pos (by omega), if_pos hm]
    have hr : rd (P ++ [0]) (P.length : Int) = 0 := by
      unfold rd
      rw [Int.toNat_natCast]
      simp [List.getD]
    rw [hr, Int.toNat_natCast, hm, Int.pow_zero, Int.mul_one, Int.zero_add, IntKind.wrap_u64, Int.emod_eq_of_lt hbyte.1 (by omega)]
    have hset : (P ++ [0]).set P.length b = P ++ [b] := by simp
    rw [hset]
  · have hp : 0 < P.length := by omega
    have e4 : wrap64 ((P.length : Int) - 1) = ((P.length - 1 : Nat) : Int) := by rw [w64_of (by omega)]; omega
    rw [if_neg (by omega), e4, if_pos (by omega), if_pos (by omega), if_pos (by omega), if_pos (by omega), if_neg hm]
    have hr : rd P ((P.length - 1 : Nat) : Int) = last P := by
      unfold rd
      rw [Int.toNat_natCast]
      rfl
    have hu := hu hm
    unfold u64 at hu
    rw [hr, Int.toNat_natCast, IntKind.wrap_u64, Int.emod_eq_of_lt hu.1 hu.2]
theorem pack_next (s : ByteArray) (i : Nat) (hi : i < (bts s).length) : (if i % 8 = 0 then packR ((bts s).take i) ++ [(bts s)[i]] else (packR ((bts s).take i)).set ((packR ((bts s).take i)).length - 1) (last (packR ((bts s).take i)) + (bts s)[i] * 256 ^ (i % 8))) = packR ((bts s).take (i + 1)) := by
  have htl : ((bts s).take i).length = i := by rw [List.length_take]; omega
  have hsn : (bts s).take (i + 1) = (bts s).take i ++ [(bts s)[i]] := by rw [List.take_add_one, List.getElem?_eq_getElem hi]; rfl
  rw [hsn]
  by_cases hm : i % 8 = 0
  · rw [if_pos hm, packR_new _ _ _ (Nat.le_refl _) (by rw [htl]; exact hm)]
  · have := packR_old _ ((bts s).take i) (bts s)[i] (Nat.le_refl _) (by rw [htl]; exact hm)
    rw [htl] at this
    rw [if_neg hm, this]
theorem last_set (P : List Int) (v : Int) (hp : 0 < P.length) : v ∈ P.set (P.length - 1) v := by
  rw [List.mem_iff_getElem]
  exact ⟨P.length - 1, by rw [List.length_set]; omega, by rw [List.getElem_set_self]⟩
theorem pack_l0 (s : ByteArray) (hs : s.size ≤ 140737488351232) (d : Nat) : ∀ (k i : Nat), i + d = s.size → d < k →
    kindlingref01_Pack.l0 k s (packR ((bts s).take i)) (i : Int) = some (PK s) := by
  have hbl := Num.bts_length s
  induction d with
  | zero =>
    intro k i hi hk
    obtain ⟨k, rfl⟩ : ∃ m, k = m + 1 := ⟨k - 1, by omega⟩
    simp only [kindlingref01_Pack.l0]
    rw [if_neg (by omega), List.take_of_length_le (by omega)]
    rfl
  | succ d ih =>
    intro k i hi hk
    obtain ⟨k, rfl⟩ : ∃ m, k = m + 1 := ⟨k - 1, by omega⟩
    have hi' : i < (bts s).length := by omega
    have hbyte : 0 ≤ (bts s)[i] ∧ (bts s)[i] < 256 := Num.bts_byte s _ (List.getElem_mem hi')
    have htl : ((bts s).take i).length = i := by rw [List.length_take]; omega
    have hpl : (packR ((bts s).take i)).length = (i + 7) / 8 := by rw [packR_length _ _ (Nat.le_refl _), htl]
    have hn := pack_next s i hi'
    rw [pack_round k s hs i (by omega) _ (bts s)[i] hpl hbyte (by rw [bt_get s i (by omega), IntKind.wrap_u64]; exact Int.emod_eq_of_lt hbyte.1 (Int.lt_of_lt_of_le hbyte.2 (by decide))) ?_, hn]
    · exact ih k (i + 1) (by omega) (by omega)
    · intro hm
      rw [if_neg hm] at hn
      have hpu : ∀ w ∈ packR ((bts s).take (i + 1)), u64 w := packR_u64 _ _ (Nat.le_refl _) (take_byte s (i + 1))
      rw [← hn] at hpu
      exact hpu _ (last_set _ _ (by rw [hpl]; omega))
theorem pack_f (s : ByteArray) (hs : s.size ≤ 140737488351232) (k : Nat) (hk : s.size + 1 ≤ k) : kindlingref01_Pack.f k s = some (PK s) := by
  unfold kindlingref01_Pack.f
  have := pack_l0 s hs s.size k 0 (by omega) (by omega)
  rw [List.take_zero, packR_nil, Int.natCast_zero] at this
  exact this

/-! ### Back -/
theorem ub_byte (l : List Int) : byteB (ub l) := by
  intro x hx
  rw [ub, List.mem_flatMap] at hx
  obtain ⟨w, _, hx⟩ := hx
  exact bytes8_byte w x hx
theorem unp_iff {l : List Int} (hw : ∀ w ∈ l, u64 w) {n : Nat} (hn : n ≤ 8 * l.length) : unp l n = if packR ((ub l).take n) = l then (strOfNums ((ub l).take n), 0) else (⟨#[]⟩, 1) := by
  unfold unp
  rw [Int.toNat_natCast]
  have htl : ((ub l).take n).length = n := by rw [List.length_take, ub_length]; omega
  by_cases h : packR ((ub l).take n) = l
  · rw [if_pos h, if_pos]
    have hlen := congrArg List.length h
    rw [packR_length _ _ (Nat.le_refl _), htl] at hlen
    refine ⟨by omega, by omega, by omega, ?_⟩
    have hu := congrArg ub h
    rw [ub_packR _ _ (Nat.le_refl _) ((ub_byte l).take n), htl] at hu
    intro x hx
    rw [← hu, List.drop_left' htl] at hx
    exact (List.mem_replicate.1 hx).2
  · rw [if_neg h, if_neg]
    rintro ⟨h1, h2, h3, h4⟩
    exact h (packR_ub l n hw hn (by omega) h4)
theorem unpack_l0 (l : List Int) (hl : l.length ≤ 1000000) (hw : ∀ w ∈ l, u64 w) (n : Nat) (hn : n ≤ 8 * l.length) (d : Nat) : ∀ (k i : Nat), i + d = n → d + n + l.length + 4 < k →
    kindlingref01_Unpack.l0 k l (n : Int) ((ub l).take i) (i : Int) = some (unp l n) := by
  induction d with
  | zero =>
    intro k i hi hk
    obtain rfl : i = n := by omega
    obtain ⟨k, rfl⟩ : ∃ m, k = m + 1 := ⟨k - 1, by omega⟩
    have htl : ((ub l).take i).length = i := by rw [List.length_take, ub_length]; omega
    have hpk : PK (strOfNums ((ub l).take i)) = packR ((ub l).take i) := by unfold PK; rw [bts_str _ ((ub_byte l).take i)]
    have hss : (strOfNums ((ub l).take i)).size = i := by rw [← Num.bts_length, bts_str _ ((ub_byte l).take i), htl]
    simp only [kindlingref01_Unpack.l0]
    rw [if_neg (by omega), pack_f _ (by rw [hss]; omega) k (by rw [hss]; omega), Option.bind_some, hpk, same_f _ _ (by rw [packR_length _ _ (Nat.le_refl _), htl]; omega) k (by rw [packR_length _ _ (Nat.le_refl _), htl]; omega), Option.bind_some, unp_iff hw hn]
    by_cases h : packR ((ub l).take i) = l
    · rw [if_pos h, if_pos (decide_eq_true h)]
    · rw [if_neg h, if_neg (by rw [decide_eq_false h]; decide)]
  | succ d ih =>
    intro k i hi hk
    obtain ⟨k, rfl⟩ : ∃ m, k = m + 1 := ⟨k - 1, by omega⟩
    have hik := ih k (i + 1) (by omega) (by omega)
    have e1 : wrap64 (Int.tdiv (i : Int) 8) = ((i / 8 : Nat) : Int) := by rw [Int.tdiv_eq_ediv_of_nonneg (by omega), w64_of (by omega)]; omega
    have e2 : IntKind.u64.wrap (wrap64 (8 * Int.tmod (i : Int) 8)) = ((i % 8 * 8 : Nat) : Int) := by rw [Int.tmod_eq_emod_of_nonneg (by omega), w64_of (by omega), IntKind.wrap_u64]; omega
    have e3 : wrap64 ((i : Int) + 1) = ((i + 1 : Nat) : Int) := by rw [w64_of (by omega)]; omega
    have htl : ((ub l).take i).length = i := by rw [List.length_take, ub_length]; omega
    have hg := ub_get l i (by omega) hw
    have hwi : u64 (l.getD (i / 8) 0) := by
      rw [List.getD, List.getElem?_eq_getElem (by omega)]
      exact hw _ (List.getElem_mem _)
    have hsh : Int.tmod (shr .u64 (rd l ((i / 8 : Nat) : Int)) ((i % 8 * 8 : Nat) : Int)) 256 % 256 = (l.getD (i / 8) 0) / 2 ^ (i % 8 * 8) % 256 := by
      have hb : i % 8 * 8 ≤ IntKind.u64.bits := Nat.le_trans (show i % 8 * 8 ≤ 56 by omega) (by decide)
      unfold shr rd
      rw [Int.toNat_natCast, Int.toNat_natCast, Nat.min_eq_left hb, Int.tmod_eq_emod_of_nonneg (Int.ediv_nonneg hwi.1 (Int.le_of_lt (Int.pow_pos (by decide)))), Int.emod_emod]
    simp only [kindlingref01_Unpack.l0]
    rw [if_pos (by omega), e1, if_pos (by omega), if_pos (by omega), e2, if_pos (by omega), if_pos (by rw [htl]; omega), hsh, e3]
    rw [List.take_add_one, hg] at hik
    exact hik
theorem unpack_f (l : List Int) (n : Int) (hl : l.length ≤ 1000000) (hw : ∀ w ∈ l, u64 w) (hn : i64 n) (k : Nat) (hk : 17 * l.length + 6 ≤ k) : kindlingref01_Unpack.f k l n = some (unp l n) := by
  simp only [i64] at hn
  obtain ⟨k, rfl⟩ : ∃ m, k = m + 1 := ⟨k - 1, by omega⟩
  have e1 : wrap64 (8 * (l.length : Int)) = ((8 * l.length : Nat) : Int) := by rw [w64_of (by omega)]; omega
  have hbad : kindlingref01_Unpack.j0 (k + 1) l n true = some (⟨#[]⟩, 1) := by simp only [kindlingref01_Unpack.j0, if_true]
  unfold kindlingref01_Unpack.f
  by_cases h0 : n < 0
  · rw [if_pos h0, hbad]
    unfold unp
    rw [if_neg (by omega)]
  · rw [if_neg h0, e1]
    by_cases h1 : n > ((8 * l.length : Nat) : Int)
    · rw [decide_eq_true h1, hbad]
      unfold unp
      rw [if_neg (by omega)]
    · rw [decide_eq_false h1]
      obtain ⟨m, rfl⟩ : ∃ m : Nat, n = m := ⟨n.toNat, by omega⟩
      simp only [kindlingref01_Unpack.j0]
      rw [if_neg (by decide)]
      have := unpack_l0 l hl hw m (by omega) m k 0 (by omega) (by omega)
      rw [List.take_zero, Int.natCast_zero] at this
      exact this
end Go.Proofs.Ytljbkonhailamaa.Fp
