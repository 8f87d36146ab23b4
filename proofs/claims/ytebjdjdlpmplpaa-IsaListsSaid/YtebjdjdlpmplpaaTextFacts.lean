/- The reference's text and reading of an integer are num's. -/
import Derived.Test.YtebjdjdlpmplpaaTx7
namespace Go.Proofs.Ytebjdjdlpmplpaa.Fb
open Go.RowKit Go.Proofs.Ytebjdjdlpmplpaa.Tx Go.Proofs.YtebjdjdlpmplpaaW.PrintWords Go.Proofs.YtebjdjdlpmplpaaW.PrintLast
open Num (textOf digs parseOf fitZ val bts byteB)

def i64 (a : Int) : Prop := -9223372036854775808 ≤ a ∧ a ≤ 9223372036854775807
theorem w64 (n : Int) : wrap64 n = (n + 9223372036854775808) % 18446744073709551616 - 9223372036854775808 := by
  unfold wrap64; omega
theorem w64_of {n : Int} (h : -9223372036854775808 ≤ n ∧ n ≤ 9223372036854775807) : wrap64 n = n := by rw [w64]; omega
theorem str_append (a b : List Int) : strOfNums a ++ strOfNums b = strOfNums (a ++ b) := by
  have h : (strOfNums a ++ strOfNums b).data = (strOfNums (a ++ b)).data := by
    rw [ByteArray.data_append]
    simp [strOfNums]
  generalize strOfNums a ++ strOfNums b = x at h
  generalize strOfNums (a ++ b) = y at h
  obtain ⟨x⟩ := x
  obtain ⟨y⟩ := y
  exact congrArg ByteArray.mk h
theorem str_nil : strOfNums [] = ⟨#[]⟩ := rfl

/-- '-' ahead of a number below 0. -/
def sg (n : Int) : List Int := if n < 0 then [45] else []
theorem rtext_end (n : Int) (k : Nat) (s : List Int) (hs : s ≠ []) (hl : s.length ≤ 100) : kindlingref01_Text.l0 (k + 2) n (strOfNums s) 0 = some (strOfNums (sg n ++ s)) := by
  have hne : ((strOfNums s).toList == ([] : List UInt8)) = false := by
    rw [ByteArray.toList_eq, strOfNums_data, beq_eq_false_iff_ne]
    simpa using hs
  have hsz : (strOfNums s).size = s.length := strOfNums_size s
  rw [kindlingref01_Text.l0, if_pos rfl, hne, kindlingref01_Text.j1, if_neg (by decide)]
  unfold sg
  split
  · rw [if_pos (by omega), show (⟨#[45]⟩ : ByteArray) = strOfNums [45] from rfl, str_append]
  · rfl
theorem rtext_l0 (n : Int) (m : Nat) : ∀ (k : Nat) (x : Int) (s : List Int), i64 x → x.natAbs < 10 ^ (m + 1) → s.length + m + 1 ≤ 100 → 2 * m + 4 ≤ k → (x ≠ 0 ∨ s = []) →
    kindlingref01_Text.l0 k n (strOfNums s) x = some (strOfNums (sg n ++ (digs x.natAbs ++ s))) := by
  induction m with
  | zero =>
    intro k x s hx hm hl hk hne
    simp only [i64] at hx
    obtain ⟨k, rfl⟩ : ∃ j, k = j + 4 := ⟨k - 4, by omega⟩
    have hd : Num.digs x.natAbs = [48 + (x.natAbs : Int)] := by rw [Num.digs, if_pos (by omega)]
    have h1 : kindlingref01_Text.l0 (k + 4) n (strOfNums s) x = kindlingref01_Text.j1 (k + 3) n (strOfNums s) x true := by
      rw [kindlingref01_Text.l0]
      by_cases h0 : x = 0
      · rw [if_pos h0]
        have : s = [] := by rcases hne with h | h; exact absurd h0 h; exact h
        subst this
        rw [show ((strOfNums ([] : List Int)).toList == ([] : List UInt8)) = true by decide +kernel]
      · rw [if_neg h0]
    have e0 : wrap64 (Int.tdiv x 10) = 0 := by
      have := Int.natAbs_tdiv x 10
      have h2 : (Int.tdiv x 10).natAbs = x.natAbs / 10 := this
      rw [w64_of (by omega)]; omega
    have hmod : (Int.tmod x 10).natAbs = x.natAbs := by
      have := Int.natAbs_tmod x 10
      have h2 : (Int.tmod x 10).natAbs = x.natAbs % 10 := this
      omega
    have hend := rtext_end n k ((48 + (x.natAbs : Int)) :: s) (by simp) (by simp; omega)
    have hsz : (strOfNums [48 + (x.natAbs : Int)]).size + (strOfNums s).size ≤ 9223372036854775807 := by rw [strOfNums_size, strOfNums_size]; simp; omega
    rw [h1, kindlingref01_Text.j1, if_pos rfl, e0, hd]
    by_cases hn : Int.tmod x 10 < 0
    · rw [if_pos hn, Option.bind_some]
      have e1 : wrap64 (48 + wrap64 (-(Int.tmod x 10))) % 256 = 48 + (x.natAbs : Int) := by
        rw [w64_of (n := -(Int.tmod x 10)) (by omega), w64_of (by omega)]; omega
      rw [e1, if_pos hsz, str_append]
      exact hend
    · rw [if_neg hn, Option.bind_some]
      have e1 : wrap64 (48 + Int.tmod x 10) % 256 = 48 + (x.natAbs : Int) := by
        rw [w64_of (by omega)]; omega
      rw [e1, if_pos hsz, str_append]
      exact hend
  | succ m ih =>
    intro k x s hx hm hl hk hne
    by_cases hsmall : x.natAbs < 10 ^ (m + 1)
    · exact ih k x s hx hsmall (by omega) (by omega) hne
    have hp : 10 ≤ 10 ^ (m + 1) := by rw [Nat.pow_succ]; have := Nat.pow_pos (n := m) (show 0 < 10 by decide); omega
    have hbig : 10 ≤ x.natAbs := by omega
    simp only [i64] at hx
    obtain ⟨k, rfl⟩ : ∃ j, k = j + 2 := ⟨k - 2, by omega⟩
    have hd : Num.digs x.natAbs = Num.digs (x.natAbs / 10) ++ [48 + ((x.natAbs % 10 : Nat) : Int)] := by rw [Num.digs, if_neg (by omega)]
    have h1 : kindlingref01_Text.l0 (k + 2) n (strOfNums s) x = kindlingref01_Text.j1 (k + 1) n (strOfNums s) x true := by
      rw [kindlingref01_Text.l0, if_neg (by omega)]
    have hdiv : (Int.tdiv x 10).natAbs = x.natAbs / 10 := Int.natAbs_tdiv x 10
    have hmod : (Int.tmod x 10).natAbs = x.natAbs % 10 := Int.natAbs_tmod x 10
    have e0 : wrap64 (Int.tdiv x 10) = Int.tdiv x 10 := w64_of (by omega)
    have hend := ih k (Int.tdiv x 10) ((48 + ((x.natAbs % 10 : Nat) : Int)) :: s) (by unfold i64; omega) (by rw [hdiv]; rw [Nat.pow_succ] at hm; omega) (by simp; omega) (by omega) (.inl (by omega))
    rw [hdiv] at hend
    have hsz : (strOfNums [48 + ((x.natAbs % 10 : Nat) : Int)]).size + (strOfNums s).size ≤ 9223372036854775807 := by rw [strOfNums_size, strOfNums_size]; simp; omega
    rw [h1, kindlingref01_Text.j1, if_pos rfl, e0, hd]
    by_cases hn : Int.tmod x 10 < 0
    · rw [if_pos hn, Option.bind_some]
      have e1 : wrap64 (48 + wrap64 (-(Int.tmod x 10))) % 256 = 48 + ((x.natAbs % 10 : Nat) : Int) := by
        rw [w64_of (n := -(Int.tmod x 10)) (by omega), w64_of (by omega)]; omega
      rw [e1, if_pos hsz, str_append, List.append_assoc]
      exact hend
    · rw [if_neg hn, Option.bind_some]
      have e1 : wrap64 (48 + Int.tmod x 10) % 256 = 48 + ((x.natAbs % 10 : Nat) : Int) := by
        rw [w64_of (by omega)]; omega
      rw [e1, if_pos hsz, str_append, List.append_assoc]
      exact hend
theorem rtext_f {n : Int} (hn : i64 n) (k : Nat) (hk : 44 ≤ k) : kindlingref01_Text.f k n = some (strOfNums (textOf n)) := by
  have h := rtext_l0 n 19 k n [] hn (by simp only [i64] at hn; omega) (by decide) (by omega) (.inr rfl)
  unfold kindlingref01_Text.f
  rw [str_nil] at h
  rw [h]
  unfold textOf sg
  split <;> simp
theorem bt_bts {s : ByteArray} {i : Nat} (h : i < s.size) : (bts s)[i]? = some (bt s (i : Int)) := by
  rw [Num.bts_get? s i h]
  unfold bt
  rw [dif_pos (by rw [Int.toNat_natCast]; exact h)]
  rfl
theorem str_inj {s t : ByteArray} (h : s.toList = t.toList) : s = t := Num.toList_inj h
def NoInt (s : ByteArray) : Prop := ∀ n, fitZ n → strOfNums (textOf n) ≠ s
theorem rparse_no (s : ByteArray) (b : Bool) (hno : NoInt s) (hs : s.size ≤ 20) (d : Nat) : ∀ (k i : Nat) (n : Int), i + d = s.size → d + 50 ≤ k → -4611686018427387904 ≤ n → n ≤ 0 →
    kindlingref01_Parse.l0 k s b n (i : Int) = some (0, 11) := by
  induction d with
  | zero =>
    intro k i n hi hk h1 h2
    obtain ⟨k, rfl⟩ : ∃ m, k = m + 1 := ⟨k - 1, by omega⟩
    rw [kindlingref01_Parse.l0, if_neg (by omega)]
    cases b with
    | true =>
      rw [if_pos rfl, rtext_f (by unfold i64; omega) k (by omega), Option.bind_some, if_neg]
      intro h; exact hno n ⟨h1, by omega⟩ (str_inj h)
    | false =>
      rw [if_neg (by decide)]
      by_cases h0 : n = -4611686018427387904
      · rw [if_pos h0]
      · have e : wrap64 (-n) = -n := w64_of (by omega)
        rw [if_neg h0, e, rtext_f (by unfold i64; omega) k (by omega), Option.bind_some, if_neg]
        intro h; exact hno (-n) ⟨by omega, by omega⟩ (str_inj h)
  | succ d ih =>
    intro k i n hi hk h1 h2
    obtain ⟨k, rfl⟩ : ∃ m, k = m + 1 := ⟨k - 1, by omega⟩
    have hr := bt_range s (i : Int)
    have e1 : wrap64 (wrap64 (bt s (i : Int)) - 48) = bt s (i : Int) - 48 := by rw [w64_of (n := bt s (i : Int)) (by omega), w64_of (by omega)]
    have e3 : wrap64 ((i : Int) + 1) = ((i + 1 : Nat) : Int) := by rw [w64_of (by omega)]; omega
    rw [kindlingref01_Parse.l0, if_pos (by omega), if_pos (by omega), e1]
    by_cases c1 : bt s (i : Int) - 48 < 0
    · rw [if_pos c1]
    rw [if_neg c1]
    by_cases c2 : bt s (i : Int) - 48 > 9
    · rw [if_pos c2]
    rw [if_neg c2]
    have e2 : wrap64 (-4611686018427387904 + (bt s (i : Int) - 48)) = -4611686018427387904 + (bt s (i : Int) - 48) := w64_of (by omega)
    have e4 : Int.tdiv (-4611686018427387904 + (bt s (i : Int) - 48)) 10 = -((4611686018427387904 - (bt s (i : Int) - 48)) / 10) := by
      rw [show -4611686018427387904 + (bt s (i : Int) - 48) = -(4611686018427387904 - (bt s (i : Int) - 48)) by omega, Int.neg_tdiv, Int.tdiv_eq_ediv_of_nonneg (by omega)]
    rw [e2, e4, w64_of (n := -((4611686018427387904 - (bt s (i : Int) - 48)) / 10)) (by omega)]
    by_cases c3 : n < -((4611686018427387904 - (bt s (i : Int) - 48)) / 10)
    · rw [if_pos c3]
    rw [if_neg c3, e3]
    have e5 : wrap64 (wrap64 (10 * n) - (bt s (i : Int) - 48)) = 10 * n - (bt s (i : Int) - 48) := by rw [w64_of (n := 10 * n) (by omega), w64_of (by omega)]
    rw [e5]
    exact ih k (i + 1) _ (by omega) (by omega) (by omega) (by omega)
theorem val_step (D : List Int) (j : Nat) (c : Int) (h : D[j]? = some c) : val (D.take (j + 1)) = 10 * val (D.take j) + (c - 48) := by rw [Num.take_next _ _ _ h, Num.val_snoc]
theorem rparse_yes (s : ByteArray) (f : Nat) (u : Nat) (hu : u ≤ 4611686018427387904) (hD : (bts s).drop f = digs u) (hf : f ≤ 1) (hs : s.size ≤ 20) (hfu : f = 0 → u ≤ 4611686018427387903)
    (heq : strOfNums (textOf (if f = 1 then -(u : Int) else u)) = s) (d : Nat) : ∀ (k j : Nat), f + j + d = s.size → d + 50 ≤ k →
    kindlingref01_Parse.l0 k s (f == 1) (-val ((digs u).take j)) ((f + j : Nat) : Int) = some ((if f = 1 then -(u : Int) else u), 0) := by
  obtain ⟨s1, s2, s3⟩ := Num.digs_spec u u (Nat.le_refl _)
  have hlen : (digs u).length = s.size - f := by rw [← hD, List.length_drop, Num.bts_length]
  induction d with
  | zero =>
    intro k j hi hk
    obtain ⟨k, rfl⟩ : ∃ m, k = m + 1 := ⟨k - 1, by omega⟩
    rw [kindlingref01_Parse.l0, if_neg (by omega), List.take_of_length_le (by omega), s1]
    rcases (show f = 0 ∨ f = 1 by omega) with rfl | rfl
    · have h1 := hfu rfl
      have e : wrap64 (-(-(u : Int))) = u := by rw [w64_of (by omega)]; omega
      rw [if_neg (by decide), if_neg (by omega), e, rtext_f (by unfold i64; omega) k (by omega), Option.bind_some]
      rw [if_neg (by decide)] at heq
      rw [heq, if_pos rfl]
      rfl
    · rw [if_pos (by decide), rtext_f (by unfold i64; omega) k (by omega), Option.bind_some]
      rw [if_pos rfl] at heq
      rw [heq, if_pos rfl, if_pos rfl]
  | succ d ih =>
    intro k j hi hk
    obtain ⟨k, rfl⟩ : ∃ m, k = m + 1 := ⟨k - 1, by omega⟩
    have hb := bt_bts (s := s) (i := f + j) (by omega)
    have hg : (digs u)[j]? = some (bt s ((f + j : Nat) : Int)) := by rw [← hD, List.getElem?_drop, hb]
    have hc := s2 _ (List.mem_of_getElem? hg)
    have hv := s3 j (by omega)
    have hstep := val_step _ _ _ hg
    have hnext : val ((digs u).take (j + 1)) ≤ u := by
      by_cases hj : j + 1 < (digs u).length
      · have := s3 (j + 1) hj; omega
      · rw [List.take_of_length_le (by omega), s1]; omega
    have hv2 : val ((digs u).take j) ≤ 461168601842738790 := by omega
    have hn2 : 10 * val ((digs u).take j) + (bt s ((f + j : Nat) : Int) - 48) ≤ 4611686018427387904 := by omega
    have hi2 : ((f + j : Nat) : Int) < (s.size : Int) := by omega
    have hi3 : (0 : Int) ≤ ((f + j : Nat) : Int) := by omega
    have e3 : wrap64 (((f + j : Nat) : Int) + 1) = ((f + (j + 1) : Nat) : Int) := by rw [w64_of (by omega)]; omega
    have hx := ih k (j + 1) (by omega) (by omega)
    obtain ⟨hv0, -⟩ := hv
    obtain ⟨hc1, hc2⟩ := hc
    rw [← e3, hstep] at hx
    clear ih hD heq hu s1 s2 s3 hlen hi hk hb hg hstep hnext hfu e3
    rw [kindlingref01_Parse.l0, if_pos hi2, if_pos hi3]
    generalize bt s ((f + j : Nat) : Int) = c at *
    generalize val ((digs u).take j) = v at *
    have e1 : wrap64 (wrap64 c - 48) = c - 48 := by rw [w64_of (n := c) (by omega), w64_of (by omega)]
    have e2 : wrap64 (-4611686018427387904 + (c - 48)) = -4611686018427387904 + (c - 48) := w64_of (by omega)
    have e4 : Int.tdiv (-4611686018427387904 + (c - 48)) 10 = -((4611686018427387904 - (c - 48)) / 10) := by
      rw [show -4611686018427387904 + (c - 48) = -(4611686018427387904 - (c - 48)) by omega, Int.neg_tdiv, Int.tdiv_eq_ediv_of_nonneg (by omega)]
    have e5 : wrap64 (wrap64 (10 * -v) - (c - 48)) = -(10 * v + (c - 48)) := by rw [w64_of (n := 10 * -v) (by omega), w64_of (by omega)]; omega
    rw [e1, if_neg (by omega), if_neg (by omega), e2, e4, w64_of (n := -((4611686018427387904 - (c - 48)) / 10)) (by omega), if_neg (by omega), e5]
    exact hx

theorem text_len {n : Int} (h : fitZ n) : 1 ≤ (textOf n).length ∧ (textOf n).length ≤ 20 := by
  obtain ⟨h1, h2⟩ := h
  have p1 := Num.digs_pos n.natAbs
  have p2 := Num.digs_len 18 n.natAbs (by omega)
  unfold textOf
  split
  · rw [List.length_cons]; omega
  · omega
theorem rparse_f (s : ByteArray) (k : Nat) (hk : 80 ≤ k) : kindlingref01_Parse.f k s = some (parseOf s) := by
  by_cases hex : ∃ n, fitZ n ∧ strOfNums (textOf n) = s
  · obtain ⟨n, hf, hs⟩ := hex
    have hpo : parseOf s = (n, 0) := by rw [← hs]; exact Num.parseOf_text hf
    have hl := text_len hf
    have hb : bts s = textOf n := by rw [← hs]; exact Num.bts_str _ (Num.textOf_byte n)
    have hsz : s.size = (textOf n).length := by rw [← Num.bts_length, hb]
    have h0 := bt_bts (s := s) (i := 0) (by omega)
    rw [hb] at h0
    obtain ⟨hf1, hf2⟩ := hf
    obtain ⟨k, rfl⟩ : ∃ m, k = m + 2 := ⟨k - 2, by omega⟩
    unfold kindlingref01_Parse.f
    rw [if_neg (by omega), if_pos (by omega), if_pos (by omega), hpo]
    by_cases hn : n < 0
    · have ht : textOf n = 45 :: digs n.natAbs := by unfold textOf; rw [if_pos hn]
      have h45 : (bt s 0 == 45) = true := by
        rw [ht] at h0
        have h1 : (45 : Int) = bt s 0 := Option.some.inj h0
        rw [← h1]; rfl
      have hres : (if 1 = 1 then -((n.natAbs : Nat) : Int) else (n.natAbs : Int)) = n := by rw [if_pos rfl]; omega
      have h := rparse_yes s 1 n.natAbs (by omega) (by rw [hb, ht]; rfl) (by omega) (by omega) (by omega) (by rw [hres]; exact hs) (s.size - 1) k 0 (by omega) (by omega)
      rw [hres] at h
      rw [h45, kindlingref01_Parse.j0, if_pos rfl, kindlingref01_Parse.j1]
      exact h
    · have ht : textOf n = digs n.natAbs := by unfold textOf; rw [if_neg hn]
      have h45 : (bt s 0 == 45) = false := by
        rw [ht] at h0
        have := (Num.digs_spec n.natAbs n.natAbs (Nat.le_refl _)).2.1 _ (List.mem_of_getElem? h0)
        rw [show (((0 : Nat) : Int)) = 0 from rfl] at this
        rw [beq_eq_false_iff_ne]; omega
      have hres : (if 0 = 1 then -((n.natAbs : Nat) : Int) else (n.natAbs : Int)) = n := by rw [if_neg (by decide)]; omega
      have h := rparse_yes s 0 n.natAbs (by omega) (by rw [hb, ht]; rfl) (by omega) (by omega) (by omega) (by rw [hres]; exact hs) s.size k 0 (by omega) (by omega)
      rw [hres] at h
      rw [h45, kindlingref01_Parse.j0, if_neg (by decide), kindlingref01_Parse.j1]
      exact h
  · rw [Num.parseOf_no hex]
    have hno : NoInt s := fun n hf h => hex ⟨n, hf, h⟩
    obtain ⟨k, rfl⟩ : ∃ m, k = m + 2 := ⟨k - 2, by omega⟩
    unfold kindlingref01_Parse.f
    by_cases h20 : (s.size : Int) > 20
    · rw [if_pos h20]
    rw [if_neg h20]
    have hall : ∀ b, kindlingref01_Parse.j0 (k + 2) s b = some (0, 11) ∨ s.size = 0 := by
      intro b
      by_cases hz : s.size = 0
      · exact .inr hz
      refine .inl ?_
      rw [kindlingref01_Parse.j0]
      cases b with
      | true =>
        rw [if_pos rfl, kindlingref01_Parse.j1]
        exact rparse_no s true hno (by omega) (s.size - 1) k 1 0 (by omega) (by omega) (by omega) (by omega)
      | false =>
        rw [if_neg (by decide), kindlingref01_Parse.j1]
        exact rparse_no s false hno (by omega) s.size k 0 0 (by omega) (by omega) (by omega) (by omega)
    by_cases hz : (s.size : Int) > 0
    · rw [if_pos hz, if_pos (by omega)]
      exact (hall _).resolve_right (by omega)
    · rw [if_neg hz, kindlingref01_Parse.j0, if_neg (by decide), kindlingref01_Parse.j1]
      exact rparse_no s false hno (by omega) 0 k 0 0 (by omega) (by omega) (by omega) (by omega)
end Go.Proofs.Ytebjdjdlpmplpaa.Fb
