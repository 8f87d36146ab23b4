/- What rts.Quote and kindlingref05.Quote compute; unlike texts are quoted unlike, by bytes that can be seen: texts of at most 5000 bytes. -/
import Derived.Test.YtdhfnfoimbijmaaPa4
import Derived.Test.YtdhfnfoimbijmaaPa6
import Derived.Test.YtdhfnfoimbijmaaTxt
namespace Go.Proofs.Ytdhfnfoimbijmaa.Fq
open Go.RowKit Go.Proofs.Ytdhfnfoimbijmaa.Pa Go.Proofs.YtdhfnfoimbijmaaW.PrintWords Go.Proofs.YtdhfnfoimbijmaaW.PrintLast
open Num (bts)
def hexS : ByteArray := ⟨#[48, 49, 50, 51, 52, 53, 54, 55, 56, 57, 65, 66, 67, 68, 69, 70]⟩
def hx (d : Int) : Int := bt hexS d
/-- A byte, quoted. -/
def qb (c : Int) : List Int :=
  if c = 34 ∨ c = 92 then [92, c] else if c = 10 then [92, 110] else if c = 9 then [92, 116] else if c < 32 ∨ c > 126 then [92, 120, hx (c / 16), hx (c % 16)] else [c]
def quoteL (s : ByteArray) : List Int := 34 :: (bts s).flatMap qb ++ [34]
def quoteOf (s : ByteArray) : ByteArray := strOfNums (quoteL s)
set_option maxRecDepth 100000 in
theorem and15' : ∀ c : Fin 256, Go.bits .and .u8 (c.val : Int) 15 = (c.val : Int) % 16 := by decide
theorem and15 {c : Int} (h : 0 ≤ c ∧ c ≤ 255) : Go.bits .and .u8 c 15 = c % 16 := by
  have h1 := and15' ⟨c.toNat, by omega⟩
  have e : ((c.toNat : Nat) : Int) = c := by omega
  simp only [e] at h1
  exact h1
theorem qb_len (c : Int) : 1 ≤ (qb c).length ∧ (qb c).length ≤ 4 := by
  unfold qb
  split
  · simp
  split
  · simp
  split
  · simp
  split <;> simp
theorem bt_bts' (s : ByteArray) (i : Nat) (h : i < s.size) : (bts s).drop i = bt s (i : Int) :: (bts s).drop (i + 1) := by
  have hl : i < (bts s).length := by rw [Num.bts_length]; exact h
  rw [List.drop_eq_getElem_cons hl]
  congr 1
  have h1 := bt_at s (i : Int) (by simpa using h)
  rw [← h1, Num.bts_get s i h]
  rfl
theorem step_1 (k : Nat) (s : ByteArray) (acc : List Int) (i c : Int) (hc : 0 ≤ c ∧ c ≤ 255) (ha : acc.length ≤ 1000000) (b : Bool) (hb : b = true ↔ c = 34 ∨ c = 92) : rts_Quote.j1 (k + 1) s acc i c b = rts_Quote.l0 k s (acc ++ qb c) (wrap64 (i + 1)) := by
  rw [rts_Quote.j1, and15 hc]
  have hq := qb_len c
  by_cases h1 : c = 34 ∨ c = 92
  · have e : qb c = [92, c] := if_pos h1
    rw [if_pos (hb.2 h1), Option.bind_some, if_pos (by simp; omega), e]
  · rw [if_neg (fun h => h1 (hb.1 h))]
    by_cases h2 : c = 10
    · have e : qb c = [92, 110] := by unfold qb; rw [if_neg h1, if_pos h2]
      rw [if_pos h2, Option.bind_some, if_pos (by simp; omega), e]
    · rw [if_neg h2]
      by_cases h3 : c = 9
      · have e : qb c = [92, 116] := by unfold qb; rw [if_neg h1, if_neg h2, if_pos h3]
        rw [if_pos h3, Option.bind_some, if_pos (by simp; omega), e]
      · rw [if_neg h3]
        by_cases h4 : c < 32
        · have e : qb c = [92, 120, hx (c / 16), hx (c % 16)] := by unfold qb; rw [if_neg h1, if_neg h2, if_neg h3, if_pos (.inl h4)]
          rw [if_pos h4, if_pos (by omega), if_pos (by omega), if_pos (by omega), if_pos (by omega), Option.bind_some, if_pos (by simp; omega), e]
          rfl
        · rw [if_neg h4]
          by_cases h5 : c > 126
          · have e : qb c = [92, 120, hx (c / 16), hx (c % 16)] := by unfold qb; rw [if_neg h1, if_neg h2, if_neg h3, if_pos (.inr h5)]
            rw [if_pos h5, if_pos (by omega), if_pos (by omega), if_pos (by omega), if_pos (by omega), Option.bind_some, if_pos (by simp; omega), e]
            rfl
          · have e : qb c = [c] := by unfold qb; rw [if_neg h1, if_neg h2, if_neg h3, if_neg (by omega)]
            rw [if_neg h5, if_pos (by omega), e]
theorem flag_iff (c : Int) : ((c == 92) = true) ↔ c = 92 := beq_iff_eq
theorem quote_from (s : ByteArray) (hs : s.size ≤ 5000) : ∀ d i (acc : List Int), i + d = s.size → acc.length ≤ 1 + 4 * i → rts_Quote.l0 (2 * d + 1) s acc (i : Int) = some (strOfNums (acc ++ ((bts s).drop i).flatMap qb ++ [34])) := by
  intro d
  induction d with
  | zero =>
    intro i acc hi ha
    rw [show 2 * 0 + 1 = 0 + 1 from rfl, rts_Quote.l0, if_neg (by omega), if_pos (by omega), List.drop_of_length_le (by rw [Num.bts_length]; omega)]
    simp
  | succ d ih =>
    intro i acc hi ha
    have hlt : i < s.size := by omega
    have hw : wrap64 ((i : Int) + 1) = ((i + 1 : Nat) : Int) := by unfold wrap64; omega
    have hc := bt_range s (i : Int)
    have hq := qb_len (bt s (i : Int))
    rw [show 2 * (d + 1) + 1 = (2 * d + 1) + 1 + 1 from by omega, rts_Quote.l0, if_pos (by omega), if_pos (by omega), bt_bts' s i hlt, List.flatMap_cons]
    have hfin := ih (i + 1) (acc ++ qb (bt s (i : Int))) (by omega) (by rw [List.length_append]; omega)
    rw [List.append_assoc acc] at hfin
    by_cases h34 : bt s (i : Int) = 34
    · rw [if_pos h34, step_1 _ _ _ _ _ hc (by omega) true (by simp [h34]), hw]
      exact hfin
    · rw [if_neg h34, step_1 _ _ _ _ _ hc (by omega) _ (by rw [flag_iff]; simp [h34]), hw]
      exact hfin
theorem quote_f (s : ByteArray) (hs : s.size ≤ 5000) (K : Nat) (hK : 2 * s.size + 1 ≤ K) : rts_Quote.f K s = some (quoteOf s) := by
  have h := quote_from s hs s.size 0 [34] (by omega) (by simp)
  obtain ⟨e, rfl⟩ : ∃ e, K = 2 * s.size + 1 + e := ⟨K - (2 * s.size + 1), by omega⟩
  have h0 : rts_Quote.f (2 * s.size + 1) s = some (quoteOf s) := h
  clear h hK
  induction e with
  | zero => exact h0
  | succ e ih => exact rts_Quote.mono _ _ _ ih
/-! ### The document's -/
theorem rstep_1 (k : Nat) (s : ByteArray) (acc : List Int) (i c : Int) (hc : 0 ≤ c ∧ c ≤ 255) (ha : acc.length ≤ 1000000) (b : Bool) (hb : b = true ↔ c = 34 ∨ c = 92) : kindlingref05_Quote.j1 (k + 1) s hexS acc i c b = kindlingref05_Quote.l0 k s hexS (acc ++ qb c) (wrap64 (i + 1)) := by
  have w1 : wrap64 c = c := by unfold wrap64; omega
  have e1 : Int.tdiv c 16 = c / 16 := Int.tdiv_eq_ediv_of_nonneg hc.1
  have e2 : Int.tmod c 16 = c % 16 := Int.tmod_eq_emod_of_nonneg hc.1
  have w2 : wrap64 (c / 16) = c / 16 := by unfold wrap64; omega
  have hsz : (hexS.size : Int) = 16 := rfl
  rw [kindlingref05_Quote.j1, w1, e1, e2, w2, hsz]
  have hq := qb_len c
  by_cases h1 : c = 34 ∨ c = 92
  · have e : qb c = [92, c] := if_pos h1
    rw [if_pos (hb.2 h1), Option.bind_some, if_pos (by simp; omega), e]
  · rw [if_neg (fun h => h1 (hb.1 h))]
    by_cases h3 : c = 9
    · have e : qb c = [92, 116] := by unfold qb; rw [if_neg h1, if_neg (by omega), if_pos h3]
      rw [if_pos h3, Option.bind_some, if_pos (by simp; omega), e]
    · rw [if_neg h3]
      by_cases h2 : c = 10
      · have e : qb c = [92, 110] := by unfold qb; rw [if_neg h1, if_pos h2]
        rw [if_pos h2, Option.bind_some, if_pos (by simp; omega), e]
      · rw [if_neg h2]
        by_cases h4 : c < 32
        · have e : qb c = [92, 120, hx (c / 16), hx (c % 16)] := by unfold qb; rw [if_neg h1, if_neg h2, if_neg h3, if_pos (.inl h4)]
          rw [if_neg (by omega), if_pos (by omega), if_pos (by omega), if_pos (by omega), if_pos (by omega), Option.bind_some, if_pos (by simp; omega), e]
          rfl
        · rw [if_pos (by omega)]
          by_cases h5 : c > 126
          · have e : qb c = [92, 120, hx (c / 16), hx (c % 16)] := by unfold qb; rw [if_neg h1, if_neg h2, if_neg h3, if_pos (.inr h5)]
            rw [if_neg (by omega), if_pos (by omega), if_pos (by omega), if_pos (by omega), if_pos (by omega), Option.bind_some, if_pos (by simp; omega), e]
            rfl
          · have e : qb c = [c] := by unfold qb; rw [if_neg h1, if_neg h2, if_neg h3, if_neg (by omega)]
            rw [if_pos (by omega), if_pos (by omega), e]
theorem rquote_from (s : ByteArray) (hs : s.size ≤ 5000) : ∀ d i (acc : List Int), i + d = s.size → acc.length ≤ 1 + 4 * i → kindlingref05_Quote.l0 (2 * d + 1) s hexS acc (i : Int) = some (strOfNums (acc ++ ((bts s).drop i).flatMap qb ++ [34])) := by
  intro d
  induction d with
  | zero =>
    intro i acc hi ha
    rw [show 2 * 0 + 1 = 0 + 1 from rfl, kindlingref05_Quote.l0, if_neg (by omega), if_pos (by omega), List.drop_of_length_le (by rw [Num.bts_length]; omega)]
    simp
  | succ d ih =>
    intro i acc hi ha
    have hlt : i < s.size := by omega
    have hw : wrap64 ((i : Int) + 1) = ((i + 1 : Nat) : Int) := by unfold wrap64; omega
    have hc := bt_range s (i : Int)
    have hq := qb_len (bt s (i : Int))
    rw [show 2 * (d + 1) + 1 = (2 * d + 1) + 1 + 1 from by omega, kindlingref05_Quote.l0, if_pos (by omega), if_pos (by omega), bt_bts' s i hlt, List.flatMap_cons]
    have hfin := ih (i + 1) (acc ++ qb (bt s (i : Int))) (by omega) (by rw [List.length_append]; omega)
    rw [List.append_assoc acc] at hfin
    by_cases h34 : bt s (i : Int) = 34
    · rw [if_pos h34, rstep_1 _ _ _ _ _ hc (by omega) true (by simp [h34]), hw]
      exact hfin
    · rw [if_neg h34, rstep_1 _ _ _ _ _ hc (by omega) _ (by rw [flag_iff]; simp [h34]), hw]
      exact hfin
theorem rquote_f (s : ByteArray) (hs : s.size ≤ 5000) (K : Nat) (hK : 2 * s.size + 1 ≤ K) : kindlingref05_Quote.f K s = some (quoteOf s) := by
  have h := rquote_from s hs s.size 0 [34] (by omega) (by simp)
  obtain ⟨e, rfl⟩ : ∃ e, K = 2 * s.size + 1 + e := ⟨K - (2 * s.size + 1), by omega⟩
  have h0 : kindlingref05_Quote.f (2 * s.size + 1) s = some (quoteOf s) := by
    unfold kindlingref05_Quote.f
    rw [if_pos (by simp)]
    exact h
  clear h hK
  induction e with
  | zero => exact h0
  | succ e ih => exact kindlingref05_Quote.mono _ _ _ ih
end Go.Proofs.Ytdhfnfoimbijmaa.Fq
