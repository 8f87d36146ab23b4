/- kindlingref03's Parse answers an instruction just at that instruction's text. -/
import Derived.Test.YtebjdjdlpmplpaaLpRef
namespace Go.Proofs.Ytebjdjdlpmplpaa.FaT
open Go.RowKit Go.Proofs.Ytebjdjdlpmplpaa.Tx Go.Proofs.Ytebjdjdlpmplpaa.Isa Go.Proofs.YtebjdjdlpmplpaaW.PrintWords Go.Proofs.YtebjdjdlpmplpaaW.PrintLast
open Num (textOf bts parseOf fitZ)
theorem row_f0 {op : Int} (h : opIn op) : (rd_T23 tableL op).f0 = nameOf op := by
  rcases op_cases h.1 h.2 with rfl | rfl | rfl | rfl | rfl | rfl | rfl | rfl | rfl | rfl | rfl | rfl | rfl | rfl | rfl | rfl | rfl | rfl | rfl | rfl | rfl | rfl | rfl | rfl | rfl | rfl | rfl | rfl | rfl | rfl | rfl | rfl | rfl | rfl | rfl | rfl <;> rfl
theorem row_f1 {op : Int} (h : opIn op) : (rd_T23 tableL op).f1 = formOf op := by
  rcases op_cases h.1 h.2 with rfl | rfl | rfl | rfl | rfl | rfl | rfl | rfl | rfl | rfl | rfl | rfl | rfl | rfl | rfl | rfl | rfl | rfl | rfl | rfl | rfl | rfl | rfl | rfl | rfl | rfl | rfl | rfl | rfl | rfl | rfl | rfl | rfl | rfl | rfl | rfl <;> rfl
def strip (w : ByteArray) : ByteArray := if (w.size : Int) > 0 then (if (bt w 0 == 114) = true then w.extract 1 w.size else w) else w
def rv (w : ByteArray) : Int := (parseOf (strip w)).1
def rl : List Int → List ByteArray → Fs → Fs
  | ch :: r, w :: ws, q => rl r ws (upd q ch (rv w))
  | _, _, q => q
theorem parse_i64 (w : ByteArray) : i64in (parseOf w).1 := by
  unfold Num.parseOf i64in
  split
  · rename_i h; obtain ⟨⟨h1, h2⟩, _⟩ := h; omega
  · omega
def FsI (q : Fs) : Prop := i64in q.a ∧ i64in q.b ∧ i64in q.c ∧ i64in q.n
theorem upd_i64 {q : Fs} (h : FsI q) (ch v : Int) (hv : i64in v) : FsI (upd q ch v) := by
  unfold upd
  split
  · exact ⟨hv, h.2.1, h.2.2.1, h.2.2.2⟩
  split
  · exact ⟨h.1, hv, h.2.2.1, h.2.2.2⟩
  split
  · exact ⟨h.1, h.2.1, hv, h.2.2.2⟩
  · exact ⟨h.1, h.2.1, h.2.2.1, hv⟩
theorem FsI0 : FsI ⟨0, 0, 0, 0⟩ := ⟨⟨by decide, by decide⟩, ⟨by decide, by decide⟩, ⟨by decide, by decide⟩, ⟨by decide, by decide⟩⟩
def fin2 (s : ByteArray) (L : List ByteArray) (k : Nat) (op : Int) (q : Fs) : Option (Int × Int × Int × Int × Int × Int) :=
  if (isaText op q.a q.b q.c q.n).toList = s.toList then some (op, q.a, q.b, q.c, q.n, 0) else kindlingref03_Parse.l1 k s L tableL (wrap64 (op + 1))
theorem tab_len : tableL.length = 37 := rfl
theorem rl2 (s : ByteArray) (L : List ByteArray) (op : Int) (ho : opIn op) (hL : L.length = (formOf op).size + 1) (m : Nat) : ∀ (i k : Nat) (q : Fs), i + m = (formOf op).size → FsI q →
    kindlingref03_Parse.l2 (k + 3 * m + 100) s L tableL op ((i + 1 : Nat) : Int) op q.a q.b q.c q.n = fin2 s L (k + 99) op (rl ((bts (formOf op)).drop i) (L.drop (i + 1)) q) := by
  have hF := form_small op
  have hop : 1 ≤ op ∧ op ≤ 36 := by unfold opIn at ho; omega
  induction m with
  | zero =>
    intro i k q h hq
    rw [kindlingref03_Parse.l2, if_neg (by omega), List.drop_of_length_le (l := bts (formOf op)) (by rw [Num.bts_length]; omega), show k + 3 * 0 + 99 = k + 39 + 60 from rfl, rtext3_f _ _ _ _ _ _ hq.1 hq.2.1 hq.2.2.1 hq.2.2.2, Option.bind_some]
    have e : rl [] (L.drop (i + 1)) q = q := by cases L.drop (i + 1) <;> rfl
    rw [e]
    rfl
  | succ m ih =>
    intro i k q h hq
    have hi : i < (formOf op).size := by omega
    have hd : (bts (formOf op)).drop i = bt (formOf op) i :: (bts (formOf op)).drop (i + 1) := by
      rw [bt_bts (formOf op) i hi]; exact List.drop_eq_getElem_cons _
    have hl : i + 1 < L.length := by omega
    have hd2 : L.drop (i + 1) = L[i + 1] :: L.drop (i + 1 + 1) := List.drop_eq_getElem_cons _
    have hw : wrap64 (((i + 1 : Nat) : Int) + 1) = ((i + 1 + 1 : Nat) : Int) := by unfold wrap64; omega
    have hw1 : wrap64 (((i + 1 : Nat) : Int) - 1) = (i : Int) := by unfold wrap64; omega
    have hr : rdOf ByteArray.empty L ((i + 1 : Nat) : Int) = L[i + 1] := by
      unfold rdOf; rw [Int.toNat_natCast, List.getD_eq_getElem?_getD, List.getElem?_eq_getElem hl]; rfl
    generalize hW : L[i + 1] = w at *
    have hj5 : ∀ x : ByteArray, kindlingref03_Parse.j5 (k + 3 * m + 101) s L tableL op ((i + 1 : Nat) : Int) x op q.a q.b q.c q.n = fin2 s L (k + 99) op (rl ((bts (formOf op)).drop (i + 1)) (L.drop (i + 1 + 1)) (upd q (bt (formOf op) i) (parseOf x).1)) := by
      intro x
      have hv := parse_i64 x
      rw [kindlingref03_Parse.j5, Fb.rparse_f x _ (by omega), Option.bind_some, if_pos (by omega), if_pos (by rw [tab_len]; omega), hw1, if_pos (by omega), row_f1 ho, if_pos (by omega), hw]
      have hu := upd_i64 hq (bt (formOf op) i) _ hv
      unfold upd at hu ⊢
      by_cases h1 : bt (formOf op) (i : Int) = 97
      · rw [if_pos h1] at hu; rw [if_pos h1, if_pos h1]; exact ih (i + 1) k { q with a := (parseOf x).1 } (by omega) hu
      rw [if_neg h1] at hu
      rw [if_neg h1, if_neg h1]
      by_cases h2 : bt (formOf op) (i : Int) = 98
      · rw [if_pos h2] at hu; rw [if_pos h2, if_pos h2]; exact ih (i + 1) k { q with b := (parseOf x).1 } (by omega) hu
      rw [if_neg h2] at hu
      rw [if_neg h2, if_neg h2]
      by_cases h3 : bt (formOf op) (i : Int) = 99
      · rw [if_pos h3] at hu; rw [if_pos h3, if_pos h3]; exact ih (i + 1) k { q with c := (parseOf x).1 } (by omega) hu
      rw [if_neg h3] at hu
      rw [if_neg h3, if_neg h3]
      exact ih (i + 1) k { q with n := (parseOf x).1 } (by omega) hu
    rw [show k + 3 * (m + 1) + 100 = (k + 3 * m + 101) + 1 + 1 by omega, kindlingref03_Parse.l2, if_pos (by omega), if_pos (by omega), hr, hd, hd2, rl]
    unfold rv strip
    by_cases hs0 : (w.size : Int) > 0
    · rw [if_pos hs0, if_pos (by omega), if_pos hs0, kindlingref03_Parse.j4]
      by_cases h114 : (bt w 0 == 114) = true
      · rw [if_pos h114, if_pos h114, if_pos (by omega)]; exact hj5 _
      · rw [if_neg h114, if_neg h114]; exact hj5 _
    · rw [if_neg hs0, if_neg hs0, kindlingref03_Parse.j4, if_neg (by decide)]; exact hj5 _
theorem rl1_step (s : ByteArray) (L : List ByteArray) (hL : 0 < L.length) (op : Int) (ho : opIn op) (k : Nat) (hk : 115 ≤ k) :
    ∃ k', k ≤ k' + 15 ∧ k' ≤ k ∧ kindlingref03_Parse.l1 k s L tableL op = if nameOf op = L[0] ∧ L.length = (formOf op).size + 1 then fin2 s L k' op (rl (bts (formOf op)) (L.drop 1) ⟨0, 0, 0, 0⟩) else kindlingref03_Parse.l1 k' s L tableL (op + 1) := by
  have hF := form_small op
  have hop : 1 ≤ op ∧ op ≤ 36 := by unfold opIn at ho; omega
  have hr : rdOf ByteArray.empty L 0 = L[0] := by
    unfold rdOf; rw [show (0 : Int).toNat = 0 from rfl, List.getD_eq_getElem?_getD, List.getElem?_eq_getElem hL]; rfl
  have hw : wrap64 (op + 1) = op + 1 := by unfold wrap64; omega
  have hwf : wrap64 (((formOf op).size : Int) + 1) = (((formOf op).size + 1 : Nat) : Int) := by unfold wrap64; omega
  obtain ⟨j, rfl⟩ : ∃ j, k = j + 1 + 1 := ⟨k - 2, by omega⟩
  have hl1 : kindlingref03_Parse.l1 (j + 1 + 1) s L tableL op = if nameOf op = L[0] ∧ L.length = (formOf op).size + 1 then kindlingref03_Parse.l2 j s L tableL op 1 op 0 0 0 0 else kindlingref03_Parse.l1 j s L tableL (op + 1) := by
    rw [kindlingref03_Parse.l1, if_pos (by rw [tab_len]; omega), if_pos (by omega), if_pos (by omega), row_f0 ho, row_f1 ho, hr, hwf]
    by_cases hn : nameOf op = L[0]
    · rw [if_pos (by rw [hn]), kindlingref03_Parse.j2]
      by_cases hl : L.length = (formOf op).size + 1
      · rw [if_neg (by simp; omega), if_pos ⟨hn, hl⟩]
      · rw [if_pos (by simp; omega), if_neg (fun h => hl h.2), hw]
    · rw [if_neg (fun h => hn (Num.toList_inj h)), kindlingref03_Parse.j2, if_pos rfl, if_neg (fun h => hn h.1), hw]
  by_cases hc : nameOf op = L[0] ∧ L.length = (formOf op).size + 1
  · refine ⟨j - 3 * (formOf op).size - 1, by omega, by omega, ?_⟩
    rw [hl1, if_pos hc, if_pos hc]
    have := rl2 s L op ho hc.2 (formOf op).size 0 (j - 3 * (formOf op).size - 100) ⟨0, 0, 0, 0⟩ (by omega) FsI0
    rw [show j - 3 * (formOf op).size - 100 + 3 * (formOf op).size + 100 = j by omega, show j - 3 * (formOf op).size - 100 + 99 = j - 3 * (formOf op).size - 1 by omega] at this
    exact this
  · refine ⟨j, by omega, by omega, ?_⟩
    rw [hl1, if_neg hc, if_neg hc]
theorem rno (s : ByteArray) (L : List ByteArray) (hL : 0 < L.length) (hno : ∀ (op : Int) (q : Fs), opIn op → nameOf op = L[0] → (isaText op q.a q.b q.c q.n).toList ≠ s.toList) (d : Nat) : ∀ (x : Int) (k : Nat), 1 ≤ x → x + d = 37 → 115 + 15 * d ≤ k → kindlingref03_Parse.l1 k s L tableL x = some err := by
  induction d with
  | zero =>
    intro x k _ hx hk
    obtain ⟨j, rfl⟩ : ∃ j, k = j + 1 := ⟨k - 1, by omega⟩
    rw [kindlingref03_Parse.l1, if_neg (by rw [tab_len]; omega)]
    rfl
  | succ d ih =>
    intro x k h1 hx hk
    have ho : opIn x := by unfold opIn; omega
    obtain ⟨k', h2, h3, h4⟩ := rl1_step s L hL x ho k (by omega)
    have hw : wrap64 (x + 1) = x + 1 := by unfold wrap64; omega
    have hnext := ih (x + 1) k' (by omega) (by omega) (by omega)
    rw [h4]
    by_cases hc : nameOf x = L[0] ∧ L.length = (formOf x).size + 1
    · rw [if_pos hc]
      unfold fin2
      rw [if_neg (hno x _ ho hc.1), hw]
      exact hnext
    · rw [if_neg hc]; exact hnext
theorem ryes (s : ByteArray) (L : List ByteArray) (hL : 0 < L.length) (op : Int) (q : Fs) (ho : opIn op) (hn : nameOf op = L[0]) (hl : L.length = (formOf op).size + 1) (hq : rl (bts (formOf op)) (L.drop 1) ⟨0, 0, 0, 0⟩ = q) (ht : (isaText op q.a q.b q.c q.n).toList = s.toList) (d : Nat) :
    ∀ (x : Int) (k : Nat), 1 ≤ x → x + d = op → 115 + 15 * d ≤ k → kindlingref03_Parse.l1 k s L tableL x = some (op, q.a, q.b, q.c, q.n, 0) := by
  induction d with
  | zero =>
    intro x k _ hx hk
    obtain rfl : x = op := by omega
    obtain ⟨k', h2, h3, h4⟩ := rl1_step s L hL x ho k (by omega)
    rw [h4, if_pos ⟨hn, hl⟩, hq]
    unfold fin2
    rw [if_pos ht]
  | succ d ih =>
    intro x k h1 hx hk
    have hox : opIn x := by unfold opIn at ho ⊢; omega
    obtain ⟨k', h2, h3, h4⟩ := rl1_step s L hL x hox k (by omega)
    rw [h4, if_neg]
    · exact ih (x + 1) k' (by omega) (by omega) (by omega)
    · rintro ⟨h5, _⟩
      have := name_inj hox ho (by rw [h5, hn])
      omega
theorem textOf_head (v : Int) : ∀ x, (textOf v).head? = some x → x ≠ 114 := by
  intro x hx
  have h := (Num.digs_spec v.natAbs v.natAbs (Nat.le_refl _)).2.1
  unfold Num.textOf at hx
  split at hx
  · simp at hx; omega
  · have := h x (List.mem_of_mem_head? hx); omega
theorem str_head (x : Int) (r : List Int) (hb : Num.byteB (x :: r)) : bt (strOfNums (x :: r)) 0 = x := by
  have hbs := Num.bts_str _ hb
  have hs : 0 < (strOfNums (x :: r)).size := by rw [size_strOfNums]; simp
  have h0 := bt_bts (strOfNums (x :: r)) 0 hs
  have h1 : (bts (strOfNums (x :: r)))[0]? = some x := by rw [hbs]; rfl
  rw [List.getElem?_eq_getElem (by rw [Num.bts_length]; exact hs)] at h1
  exact h0.trans (Option.some.inj h1)
theorem rv_word (ch v : Int) (hv : fitZ v) : rv (strOfNums (wordB ch v)) = v := by
  have hbt := Num.textOf_byte v
  have hpos := textOf_pos v
  unfold rv strip wordB
  by_cases h110 : ch = 110
  · rw [if_pos h110, if_pos (by rw [size_strOfNums]; omega)]
    have hne : ¬ (bt (strOfNums (textOf v)) 0 == 114) = true := by
      cases ht : textOf v with
      | nil => rw [ht] at hpos; simp at hpos
      | cons x r =>
        rw [str_head x r (by rw [← ht]; exact hbt)]
        have := textOf_head v x (by rw [ht]; rfl)
        simpa using this
    rw [if_neg hne, Num.parseOf_text hv]
  · rw [if_neg h110, if_pos (by rw [size_strOfNums, List.length_cons]; omega)]
    have hb : Num.byteB (114 :: textOf v) := by
      intro y hy
      rcases List.mem_cons.1 hy with rfl | hy
      · omega
      · exact hbt y hy
    rw [if_pos (by rw [str_head _ _ hb]; rfl), ← Num.str_bts ((strOfNums (114 :: textOf v)).extract 1 _), Num.bts_extract, Num.bts_str _ hb, List.drop_one, List.tail_cons, Num.parseOf_text hv]
theorem rl_yes (a b c n : Int) : ∀ (l : List Int) (q : Fs), (∀ x ∈ l, fitZ (fl a b c n x)) → rl l (l.map fun ch => strOfNums (wordB ch (fl a b c n ch))) q = l.foldl (fun q ch => upd q ch (fl a b c n ch)) q := by
  intro l
  induction l with
  | nil => intro q _; rfl
  | cons x r ih =>
    intro q h
    rw [List.map_cons, rl, rv_word x _ (h x (by simp)), ih _ (fun y hy => h y (by simp [hy])), List.foldl_cons]
theorem long_text {op a b c n : Int} (h : Right op a b c n) : long (textW op a b c n) = false := by
  unfold long
  apply Bool.eq_false_iff.2
  intro hh
  obtain ⟨w, hw, hl⟩ := List.any_eq_true.1 hh
  have hl := of_decide_eq_true hl
  unfold textW at hw
  have hnm := name_small op
  rcases List.mem_cons.1 hw with rfl | hw
  · rw [Num.bts_length] at hl; omega
  · obtain ⟨ch, _, rfl⟩ := List.mem_map.1 hw
    have hi : i64in (fl a b c n ch) := by
      have := h.ha; have := h.hb; have := h.hc; have := h.hn
      exact fl_i64 ch (by unfold i64in; omega) (by unfold i64in; omega) (by unfold i64in; omega) (by unfold i64in; omega)
    have := numT_small _ hi
    unfold numT at this
    rw [size_strOfNums] at this
    unfold wordB at hl
    split at hl
    · omega
    · rw [List.length_cons] at hl; omega
theorem rparse_start (s : ByteArray) (hs : s.size ≤ 1000000) (K : Nat) (hK : s.size + 700 ≤ K) : kindlingref03_Parse.f K s = if long (splitW [] (bts s)) = true then some err else kindlingref03_Parse.l1 (K - s.size - 1) s (wordsL s) tableL 1 := by
  have := rsplit s hs s.size 0 (K - s.size - 1) [] [] (by omega) (by simp; omega) (by simp)
  rw [show K - s.size - 1 + s.size + 1 = K by omega] at this
  exact this
theorem rparse_yes (s : ByteArray) (hs : s.size ≤ 1000000) (K : Nat) (hK : s.size + 700 ≤ K) {op a b c n : Int} (h : Right op a b c n) (ht : bts s = joinW (textW op a b c n)) : kindlingref03_Parse.f K s = some (op, a, b, c, n, 0) := by
  have hi := h.hop
  have hW : wordsL s = nameOf op :: (bts (formOf op)).map fun ch => strOfNums (wordB ch (fl a b c n ch)) := by
    unfold wordsL
    rw [ht, split_text]
    unfold textW
    rw [List.map_cons, Num.str_bts, List.map_map]
    rfl
  have h0 : (wordsL s)[0]'(words_pos s) = nameOf op := by simp only [hW, List.getElem_cons_zero]
  have hfit : ∀ x ∈ bts (formOf op), fitZ (fl a b c n x) := by
    intro x _
    have := h.ha; have := h.hb; have := h.hc; have := h.hn
    unfold Num.fitZ fl
    split
    · omega
    split
    · omega
    split <;> omega
  have hs2 : isaText op a b c n = s := by
    have e : bts (isaText op a b c n) = bts s := by unfold isaText; rw [if_pos (right_check h), text_bts, ht]
    rw [← Num.str_bts (isaText op a b c n), e, Num.str_bts]
  rw [rparse_start s hs K hK, ht, split_text, if_neg (by rw [long_text h]; decide)]
  exact ryes s (wordsL s) (words_pos s) op ⟨a, b, c, n⟩ hi h0.symm (by rw [hW, List.length_cons, List.length_map, Num.bts_length]) (by rw [hW, List.drop_one, List.tail_cons, rl_yes a b c n _ _ hfit, fold_form h]) (by rw [hs2]) (op - 1).toNat 1 _ (by omega) (by unfold opIn at hi; omega) (by unfold opIn at hi; omega)
theorem rparse_no (s : ByteArray) (hs : s.size ≤ 1000000) (K : Nat) (hK : s.size + 700 ≤ K) (h : ∀ op a b c n, Right op a b c n → bts s ≠ joinW (textW op a b c n)) : kindlingref03_Parse.f K s = some err := by
  rw [rparse_start s hs K hK]
  by_cases hl : long (splitW [] (bts s)) = true
  · rw [if_pos hl]
  rw [if_neg hl]
  refine rno s (wordsL s) (words_pos s) ?_ 36 1 _ (by omega) (by omega) (by omega)
  intro op q ho hn he
  have he2 := Num.toList_inj he
  by_cases hc : checkOf op q.a q.b q.c q.n = 0
  · refine h op q.a q.b q.c q.n (check_right hc) ?_
    rw [← he2]
    unfold isaText
    rw [if_pos hc, text_bts]
  · unfold isaText at he2
    rw [if_neg hc] at he2
    subst he2
    apply name_ne ho
    rw [hn]
    exact nil_toList
end Go.Proofs.Ytebjdjdlpmplpaa.FaT
