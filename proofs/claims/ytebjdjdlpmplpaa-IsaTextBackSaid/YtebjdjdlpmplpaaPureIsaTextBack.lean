/- IsaTextBack at every two instructions and every text. -/
import Derived.Test.YtebjdjdlpmplpaaTxParse
import Derived.Test.YtebjdjdlpmplpaaTx10
namespace Go.Proofs.Ytebjdjdlpmplpaa.Pure
open Go.RowKit Go.Proofs.Ytebjdjdlpmplpaa.Tx Go.Proofs.Ytebjdjdlpmplpaa.FaT Go.Proofs.Ytebjdjdlpmplpaa.Isa Go.Proofs.YtebjdjdlpmplpaaW.PrintWords Go.Proofs.YtebjdjdlpmplpaaW.PrintLast
open Num (textOf bts parseOf fitZ)
theorem parse_yes' (s : ByteArray) (hs : s.size ≤ 4096) (K : Nat) (hK : s.size + 60 ≤ K) {op a b c n : Int} (h : Right op a b c n) (ht : bts s = joinW (textW op a b c n)) : isa_Parse.f K s = some (op, a, b, c, n, 0) := by
  have := parse_yes s hs (K - s.size - 60) h ht
  rw [show K - s.size - 60 + s.size + 60 = K by omega] at this
  exact this
theorem parse_no' (s : ByteArray) (hs : s.size ≤ 4096) (K : Nat) (hK : s.size + 60 ≤ K) (h : ∀ op a b c n, Right op a b c n → bts s ≠ joinW (textW op a b c n)) : isa_Parse.f K s = some err := by
  have := parse_no s hs (K - s.size - 60) h
  rw [show K - s.size - 60 + s.size + 60 = K by omega] at this
  exact this
theorem text_f {op a b c n : Int} (ha : i64in a) (hb : i64in b) (hc : i64in c) (hn : i64in n) : isa_Text.f op a b c n = some (isaText op a b c n) := if_pos ⟨ha, hb, hc, hn⟩
theorem right_i64 {op a b c n : Int} (h : Right op a b c n) : i64in a ∧ i64in b ∧ i64in c ∧ i64in n := by
  have := h.ha; have := h.hb; have := h.hc; have := h.hn
  unfold i64in
  omega
theorem right_text {op a b c n : Int} (h : Right op a b c n) : bts (isaText op a b c n) = joinW (textW op a b c n) := by
  unfold isaText
  rw [if_pos (right_check h), text_bts]
theorem bts_inj {s t : ByteArray} (h : bts s = bts t) : s = t := by rw [← Num.str_bts s, h, Num.str_bts]
theorem right_ne {op a b c n : Int} (h : Right op a b c n) : ¬ (isaText op a b c n).toList = [] := by
  intro he
  have h1 : isaText op a b c n = ⟨#[]⟩ := Num.toList_inj (by rw [he, nil_toList])
  have h2 := right_text h
  rw [h1] at h2
  have hn := name_ne h.hop
  apply hn
  have h3 : bts (nameOf op) = [] := by
    unfold textW at h2
    cases hm : (bts (formOf op)).map fun ch => wordB ch (fl a b c n ch) with
    | nil => rw [hm] at h2; exact h2.symm
    | cons v q =>
      rw [hm, join_cons _ _ (by simp)] at h2
      exact absurd (congrArg List.length h2) (by simp [Num.bts])
  have : nameOf op = ⟨#[]⟩ := bts_inj h3
  rw [this, nil_toList]
theorem text_small (op a b c n : Int) (ha : i64in a) (hb : i64in b) (hc : i64in c) (hn : i64in n) : (isaText op a b c n).size ≤ 100 := by
  unfold isaText
  split
  · have := acc_small op a b c n ha hb hc hn (formOf op).size
    have := form_small op
    omega
  · exact Nat.zero_le _
theorem back_t1 (k : Nat) (s : ByteArray) (hs : s.size ≤ 4096) (hk : s.size + 60 ≤ k) : kindlinglaw03_IsaTextBack.j1 (k + 1) s false = some true := by
  rw [kindlinglaw03_IsaTextBack.j1, if_neg (by decide), known_f]
  by_cases h : ∃ op a b c n, Right op a b c n ∧ bts s = joinW (textW op a b c n)
  · obtain ⟨op, a, b, c, n, hr, ht⟩ := h
    obtain ⟨ha, hb, hc, hn⟩ := right_i64 hr
    rw [parse_yes' s hs k hk hr ht, Option.bind_some]
    dsimp only
    rw [if_pos rfl, text_f ha hb hc hn, Option.bind_some, show isaText op a b c n = s from bts_inj (by rw [right_text hr, ht]), if_pos rfl, icheck_f, Option.bind_some, if_pos (right_check hr)]
    rfl
  · rw [parse_no' s hs k hk (fun op a b c n hr ht => h ⟨op, a, b, c, n, hr, ht⟩), Option.bind_some]
    rfl
theorem back_t0 (k : Nat) (s : ByteArray) (hs : s.size ≤ 4096) (hk : s.size + 60 ≤ k) (op a b c n op' a' b' c' n' : Int) (ha : i64in a') (hb : i64in b') (hc : i64in c') (hn : i64in n') :
    kindlinglaw03_IsaTextBack.j0 (k + 2) s (isaText op a b c n) false op a b c n op' a' b' c' n' = some true := by
  rw [kindlinglaw03_IsaTextBack.j0, if_neg (by decide)]
  by_cases he : (isaText op a b c n).toList = []
  · rw [if_pos he]; exact back_t1 k s hs hk
  · rw [if_neg he, text_f ha hb hc hn, Option.bind_some]
    have hr : Right op a b c n := by
      by_cases h0 : checkOf op a b c n = 0
      · exact check_right h0
      · exfalso; apply he; unfold isaText; rw [if_neg h0, nil_toList]
    have hfalse : (((isaText op' a' b' c' n').toList == (isaText op a b c n).toList) != (op == op' && (a == a' && (b == b' && (c == c' && (n == n')))))) = false := by
      by_cases heq : op = op' ∧ a = a' ∧ b = b' ∧ c = c' ∧ n = n'
      · obtain ⟨rfl, rfl, rfl, rfl, rfl⟩ := heq
        simp
      · have h1 : ((isaText op' a' b' c' n').toList == (isaText op a b c n).toList) = false := by
          rw [beq_eq_false_iff_ne]
          intro ht
          have hr' : Right op' a' b' c' n' := by
            by_cases h0 : checkOf op' a' b' c' n' = 0
            · exact check_right h0
            · exfalso; apply he; rw [← ht]; unfold isaText; rw [if_neg h0, nil_toList]
          have hte := Num.toList_inj ht
          obtain ⟨ja, jb, jc, jn⟩ := right_i64 hr
          have hsz := text_small op a b c n ja jb jc jn
          have p1 := parse_yes' (isaText op a b c n) (by omega) 200 (by omega) hr (right_text hr)
          have p2 := parse_yes' (isaText op a b c n) (by omega) 200 (by omega) hr' (by rw [← hte]; exact right_text hr')
          rw [p1] at p2
          simp only [Option.some.injEq, Prod.mk.injEq] at p2
          exact heq ⟨p2.1, p2.2.1, p2.2.2.1, p2.2.2.2.1, p2.2.2.2.2.1⟩
        have h2 : (op == op' && (a == a' && (b == b' && (c == c' && (n == n'))))) = false := by
          apply Bool.eq_false_iff.2
          intro hh
          simp only [Bool.and_eq_true, beq_iff_eq] at hh
          exact heq hh
        rw [h1, h2]
        rfl
    rw [hfalse]
    exact back_t1 k s hs hk
theorem IsaTextBack (op a b c n op' a' b' c' n' : Int) (s : ByteArray) (ha : i64in a) (hb : i64in b) (hc : i64in c) (hn : i64in n) (ha' : i64in a') (hb' : i64in b') (hc' : i64in c') (hn' : i64in n') :
    ∃ k, kindlinglaw03_IsaTextBack.f k op a b c n op' a' b' c' n' s = some true := by
  refine ⟨s.size + 400 + 2, ?_⟩
  unfold kindlinglaw03_IsaTextBack.f
  by_cases hs : (s.size : Int) > 4096
  · rw [if_pos hs, known_f]; rfl
  have hs' : s.size ≤ 4096 := by omega
  have hj := back_t0 (s.size + 400) s hs' (by omega) op a b c n op' a' b' c' n' ha' hb' hc' hn'
  have hsz := text_small op a b c n ha hb hc hn
  rw [if_neg hs, text_f ha hb hc hn, Option.bind_some, icheck_f]
  by_cases h0 : checkOf op a b c n = 0
  · have hr := check_right h0
    rw [parse_yes' _ (by omega) _ (by omega) hr (right_text hr), Option.bind_some, Option.bind_some, if_pos h0]
    dsimp only
    rw [if_pos rfl, if_neg (by simp), if_neg (right_ne hr), Option.bind_some, if_pos h0]
    exact hj
  · have hp : ∃ p, isa_Parse.f (s.size + 400 + 2) (isaText op a b c n) = some p := by
      by_cases h : ∃ op2 a2 b2 c2 n2, Right op2 a2 b2 c2 n2 ∧ bts (isaText op a b c n) = joinW (textW op2 a2 b2 c2 n2)
      · obtain ⟨op2, a2, b2, c2, n2, hr, ht⟩ := h
        exact ⟨_, parse_yes' _ (by omega) _ (by omega) hr ht⟩
      · exact ⟨_, parse_no' _ (by omega) _ (by omega) (fun op a b c n hr ht => h ⟨op, a, b, c, n, hr, ht⟩)⟩
    obtain ⟨p, hp⟩ := hp
    rw [hp, Option.bind_some, Option.bind_some, if_neg h0, Option.bind_some, if_neg h0]
    have he : ((isaText op a b c n).toList != ([] : List UInt8)) = false := by
      unfold isaText; rw [if_neg h0, nil_toList]; rfl
    rw [he]
    exact hj
end Go.Proofs.Ytebjdjdlpmplpaa.Pure
