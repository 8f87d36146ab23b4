/- kindlingref03's List and Read answer as isa's do: lists of at most 5000 instructions, texts of at most 60000 bytes. -/
import Derived.Test.YtebjdjdlpmplpaaLn1
import Derived.Test.YtebjdjdlpmplpaaLn2
import Derived.Test.YtebjdjdlpmplpaaLsF
import Derived.Test.YtebjdjdlpmplpaaLpRefP
namespace Go.Proofs.Ytebjdjdlpmplpaa.FaT
open Go.RowKit Go.Proofs.Ytebjdjdlpmplpaa.Tx Go.Proofs.Ytebjdjdlpmplpaa.Isa Go.Proofs.YtebjdjdlpmplpaaW.PrintWords Go.Proofs.YtebjdjdlpmplpaaW.PrintLast
open Num (textOf bts)
open Ln (linesOf scan scan_le prs St St_snoc St_len stepR cut cut_lines prs_snoc readOf lines_f)
theorem ref_list_from (l : List S30) (hl : l.length ≤ 5000) (hin : ∀ x ∈ l, i64S x) : ∀ d i (acc : List Int), i + d = l.length → acc.length ≤ 125 * i → ∀ e, kindlingref03_List.l0 (e + 60 + d + 1) l acc (i : Int) = some (lst acc (l.drop i)) := by
  intro d
  induction d with
  | zero =>
    intro i acc hi _ e
    unfold kindlingref03_List.l0
    rw [if_neg (by omega), List.drop_of_length_le (by omega)]
    rfl
  | succ d ih =>
    intro i acc hi hacc e
    have hlt : i < l.length := by omega
    have hw : wrap64 ((i : Int) + 1) = ((i + 1 : Nat) : Int) := by unfold wrap64; omega
    have hx := hin _ (List.getElem_mem hlt)
    have ht := txt_size _ hx
    unfold kindlingref03_List.l0
    rw [if_pos (by omega), if_pos (by omega), rd30_at l i hlt, List.drop_eq_getElem_cons hlt]
    have h1 := rcheck_f (e + 49 + d) l[i].f0 l[i].f1 l[i].f2 l[i].f3 l[i].f4
    rw [show e + 49 + d + 12 = e + 60 + (d + 1) from by omega] at h1
    have h2 := rtext3_f (e + d + 1) l[i].f0 l[i].f1 l[i].f2 l[i].f3 l[i].f4 hx.2.1 hx.2.2.1 hx.2.2.2.1 hx.2.2.2.2
    rw [show e + d + 1 + 60 = e + 60 + (d + 1) from by omega] at h2
    have h2' : kindlingref03_Text.f (e + 60 + (d + 1)) l[i].f0 l[i].f1 l[i].f2 l[i].f3 l[i].f4 = some (txt l[i]) := h2
    rw [h1, Option.bind_some]
    unfold lst
    by_cases hc : chk l[i] = 0
    · rw [if_pos (show checkOf _ _ _ _ _ = 0 from hc), if_pos hc, h2', Option.bind_some]
      rw [if_pos (by omega), Option.bind_some, if_pos (by rw [List.length_append, bytesOf_length]; omega), hw]
      exact ih (i + 1) _ (by omega) (by rw [List.length_append, List.length_append, bytesOf_length, List.length_singleton]; omega) e
    · rw [if_neg (show ¬ checkOf _ _ _ _ _ = 0 from hc), if_neg hc]
      rfl
theorem ref_list_f (l : List S30) (hl : l.length ≤ 5000) (hin : ∀ x ∈ l, i64S x) (K : Nat) (hK : l.length + 61 ≤ K) : kindlingref03_List.f K l = some (listOf l) := by
  unfold kindlingref03_List.f listOf
  by_cases h : 4096 < l.length
  · rw [if_pos (by omega), if_pos h]
  · rw [if_neg (by omega), if_neg h]
    have hf := ref_list_from l hl hin l.length 0 [] (by omega) (by simp) (K - l.length - 61)
    rw [show K - l.length - 61 + 60 + l.length + 1 = K from by omega] at hf
    exact hf
theorem rparse_f (s : ByteArray) (hs : s.size ≤ 1000000) (K : Nat) (hK : s.size + 700 ≤ K) : kindlingref03_Parse.f K s = some (pq s) := by
  have hp := pq_f s hs
  by_cases h : ∃ op a b c n, Right op a b c n ∧ bts s = joinW (textW op a b c n)
  · obtain ⟨op, a, b, c, n, hr, ht⟩ := h
    have h1 := parse_yes s hs 0 hr ht
    rw [Nat.zero_add, hp] at h1
    rw [rparse_yes s hs K hK hr ht, Option.some.inj h1]
  · have hno : ∀ op a b c n, Right op a b c n → bts s ≠ joinW (textW op a b c n) := fun op a b c n hr ht => h ⟨op, a, b, c, n, hr, ht⟩
    have h1 := parse_no s hs 0 hno
    rw [Nat.zero_add, hp] at h1
    rw [rparse_no s hs K hK hno, Option.some.inj h1]
theorem prs_take (L : List ByteArray) (i : Nat) (h : i < L.length) : prs (L.take (i + 1)) = prs (L.take i) ++ [(i, L[i])] := by
  rw [List.take_succ_eq_append_getElem h, prs_snoc, List.length_take]
  congr 3
  omega
/-- Behind a wrong line nothing turns. -/
theorem st_stays (s : ByteArray) (q : ByteArray → S30) (er : ByteArray → Int) (L : List ByteArray) (o : List S30) (b : Int) (hb : 0 ≤ b) : ∀ d i, i + d = L.length → St s q er (prs (L.take i)) = (o, b) → St s q er (prs L) = (o, b) := by
  intro d
  induction d with
  | zero => intro i hi h; rwa [List.take_of_length_le (by omega)] at h
  | succ d ih =>
    intro i hi h
    refine ih (i + 1) (by omega) ?_
    rw [prs_take L i (by omega), St_snoc, h]
    unfold stepR
    exact if_pos hb
theorem ref_read_from (s : ByteArray) (hs : s.size ≤ 60000) (hL : (linesOf s).length ≤ 4096) : ∀ d i (o : List S30), i + d = (linesOf s).length → St s qL eL (prs ((linesOf s).take i)) = (o, -1) → ∀ e, s.size + 700 ≤ e → kindlingref03_Read.l0 (e + d + 1) (linesOf s) o (i : Int) = some (readOf s qL eL) := by
  intro d
  induction d with
  | zero =>
    intro i o hi hst e he
    rw [List.take_of_length_le (by omega)] at hst
    unfold kindlingref03_Read.l0 readOf
    rw [if_neg (by omega), if_neg (by omega), hst, if_neg (show ¬ (0 : Int) ≤ -1 by decide)]
  | succ d ih =>
    intro i o hi hst e he
    have hlt : i < (linesOf s).length := by omega
    have hw : wrap64 ((i : Int) + 1) = ((i + 1 : Nat) : Int) := by unfold wrap64; omega
    have hcut : cut s (linesOf s)[i] = (linesOf s)[i] := cut_lines s (s.size + 1) _ (List.getElem_mem hlt)
    have hsz : (linesOf s)[i].size ≤ s.size := by rw [← hcut]; exact Ln.cut_size _ _
    have hrd : rdOf ByteArray.empty (linesOf s) (i : Int) = (linesOf s)[i] := by simp [rdOf, List.getD, hlt]
    have hol : o.length ≤ i := by
      have h := St_len s qL eL (prs ((linesOf s).take i))
      rw [hst, Ln.prs_length, List.length_take] at h
      simp only at h
      omega
    have hnx := prs_take (linesOf s) i hlt
    unfold kindlingref03_Read.l0
    rw [if_pos (by omega), if_pos (by omega), hrd, rparse_f _ (by omega) (e + (d + 1)) (by omega), Option.bind_some, hw]
    have hst2 : St s qL eL (prs ((linesOf s).take (i + 1))) = stepR s qL eL (o, -1) (i, (linesOf s)[i]) := by rw [hnx, St_snoc, hst]
    unfold stepR at hst2
    rw [if_neg (show ¬ (0 : Int) ≤ -1 by decide)] at hst2
    simp only [hcut] at hst2
    by_cases h : (pq (linesOf s)[i]).2.2.2.2.2 = 0
    · rw [if_pos h, if_pos (by omega)]
      rw [if_pos (show eL _ = 0 from h)] at hst2
      exact ih (i + 1) _ (by omega) hst2 e he
    · rw [if_neg h]
      rw [if_neg (show ¬ eL _ = 0 from h)] at hst2
      have hfin := st_stays s qL eL (linesOf s) o (i : Int) (by omega) d (i + 1) (by omega) hst2
      unfold readOf
      rw [if_neg (by omega), hfin, if_pos (by simp)]
theorem ref_read_f (s : ByteArray) (hs : s.size ≤ 60000) (K : Nat) (hK : s.size + 700 + 4096 + 60001 ≤ K) : kindlingref03_Read.f K s = some (readOf s qL eL) := by
  unfold kindlingref03_Read.f
  have hlf : kindlingref03_Lines.f K s = some (linesOf s) := by
    have h := lines_f s hs
    obtain ⟨e, rfl⟩ : ∃ e, K = s.size + 1 + e := ⟨K - (s.size + 1), by omega⟩
    clear hK
    induction e with
    | zero => exact h
    | succ e ih => exact kindlingref03_Lines.mono _ _ _ ih
  rw [hlf, Option.bind_some]
  by_cases h : 4096 < (linesOf s).length
  · rw [if_pos (by omega)]
    unfold readOf
    rw [if_pos h]
  · rw [if_neg (by omega)]
    have hf := ref_read_from s hs (by omega) (linesOf s).length 0 [] (by omega) rfl (K - (linesOf s).length - 1) (by omega)
    rw [show K - (linesOf s).length - 1 + (linesOf s).length + 1 = K from by omega] at hf
    exact hf
end Go.Proofs.Ytebjdjdlpmplpaa.FaT
