/- The lines of a listed list are its instructions' texts; behind them a line that begins with '?' is none's. -/
import Derived.Test.YtebjdjdlpmplpaaLsF
namespace Go.Proofs.Ytebjdjdlpmplpaa.FaT
open Go.RowKit Go.Proofs.Ytebjdjdlpmplpaa.Tx Go.Proofs.Ytebjdjdlpmplpaa.Isa Go.Proofs.YtebjdjdlpmplpaaW.PrintWords Go.Proofs.YtebjdjdlpmplpaaW.PrintLast
open Num (textOf bts)
open Ln (linesOf scan scan_le scan_succ step_in step_out In prs St St_snoc St_len stepR cut cut_lines prs_snoc readOf)
theorem bts_inj' {s t : ByteArray} (h : bts s = bts t) : s = t := by rw [← Num.str_bts s, h, Num.str_bts]
theorem byte_part {l : List Int} (h : Num.byteB l) (a b : Nat) : Num.byteB ((l.drop a).take b) := fun x hx => h x (List.mem_of_mem_drop (List.mem_of_mem_take hx))
theorem bts_byteB (s : ByteArray) : Num.byteB (bts s) := by
  intro x hx
  simp only [bts, List.mem_map] at hx
  obtain ⟨b, _, rfl⟩ := hx
  have := b.toNat_lt
  omega
theorem bts_ext (s : ByteArray) (a b : Nat) : bts (s.extract a b) = ((bts s).drop a).take (b - a) := by
  rw [extract_str, Num.bts_str _ (byte_part (bts_byteB s) _ _)]
/-- The lines of a row of bytes; cur: what has come of the line so far. -/
def lns : List Int → List Int → List (List Int)
  | cur, [] => if cur = [] then [] else [cur]
  | cur, c :: r => if c = 10 then cur :: lns [] r else lns (cur ++ [c]) r
theorem lns_line (a b : List Int) (h : ∀ c ∈ a, c ≠ 10) : ∀ cur, lns cur (a ++ 10 :: b) = (cur ++ a) :: lns [] b := by
  induction a with
  | nil => intro cur; simp [lns]
  | cons c a ih =>
    intro cur
    have hc := h c (by simp)
    rw [List.cons_append, lns, if_neg hc, ih (fun x hx => h x (by simp [hx]))]
    simp
theorem lns_head (b : List Int) : ∀ (c : Int) (cur : List Int), ∃ t r, lns (c :: cur) b = (c :: t) :: r := by
  induction b with
  | nil => intro c cur; exact ⟨cur, [], by simp [lns]⟩
  | cons x b ih =>
    intro c cur
    rw [lns]
    split
    · exact ⟨cur, _, rfl⟩
    · exact ih c (cur ++ [x])
theorem bts_get' (s : ByteArray) (i : Nat) (h : i < s.size) : (bts s)[i]'(by rw [Num.bts_length]; exact h) = ((s[i]'h).toNat : Int) := by
  unfold bts
  rw [List.getElem_map, Array.getElem_toList]
  rfl
theorem get_bts (s : ByteArray) (i : Nat) (h : i < s.size) : (bts s).drop i = ((s[i]'h).toNat : Int) :: (bts s).drop (i + 1) := by
  have hl : i < (bts s).length := by rw [Num.bts_length]; exact h
  rw [List.drop_eq_getElem_cons hl, bts_get' s i h]
theorem take_next (s : ByteArray) (fr i : Nat) (hf : fr ≤ i) (h : i < s.size) : ((bts s).drop fr).take (i + 1 - fr) = ((bts s).drop fr).take (i - fr) ++ [((s[i]'h).toNat : Int)] := by
  have hl : i < (bts s).length := by rw [Num.bts_length]; exact h
  rw [show i + 1 - fr = (i - fr) + 1 from by omega, List.take_succ_eq_append_getElem (by rw [List.length_drop]; omega)]
  congr 2
  rw [List.getElem_drop]
  have e : fr + (i - fr) = i := by omega
  simp only [e]
  exact bts_get' s i h
/-- The scan of a text and its lines as bytes. -/
theorem scan_lns (s : ByteArray) : ∀ i, i ≤ s.size → (scan s i).2.map bts ++ lns (((bts s).drop (scan s i).1).take (i - (scan s i).1)) ((bts s).drop i) = lns [] (bts s) := by
  intro i
  induction i with
  | zero => intro _; simp [scan]
  | succ i ih =>
    intro hi
    have hlt : i < s.size := by omega
    have ih := ih (by omega)
    have hle := scan_le s i
    rw [get_bts s i hlt, lns] at ih
    rw [scan_succ]
    by_cases h : ((s[i]'hlt).toNat : Int) = 10
    · rw [if_pos h] at ih
      rw [step_out (by rintro (⟨h1, h2⟩ | ⟨h1, -⟩) <;> first | exact h2 h | omega), List.map_append, List.append_assoc]
      simp only [List.map_cons, List.map_nil, bts_ext, Nat.sub_self, List.take_zero, List.cons_append, List.nil_append]
      exact ih
    · rw [if_neg h] at ih
      rw [step_in (.inl ⟨hlt, h⟩), take_next s _ i hle.1 hlt]
      exact ih
theorem lines_lns (s : ByteArray) : (linesOf s).map bts = lns [] (bts s) := by
  have h := scan_lns s s.size (Nat.le_refl _)
  have hle := scan_le s s.size
  have hd : (bts s).drop s.size = [] := List.drop_of_length_le (by rw [Num.bts_length]; exact Nat.le_refl _)
  rw [hd, lns] at h
  have hl : linesOf s = (Ln.step s s.size (scan s s.size)).2 := rfl
  have hlen : (((bts s).drop (scan s s.size).1).take (s.size - (scan s s.size).1)).length = s.size - (scan s s.size).1 := by
    rw [List.length_take, List.length_drop, Num.bts_length]; omega
  by_cases hf : (scan s s.size).1 = s.size
  · rw [hl, step_in (.inr ⟨rfl, hf⟩)]
    rw [if_pos (List.eq_nil_of_length_eq_zero (by rw [hlen]; omega)), List.append_nil] at h
    exact h
  · rw [hl, step_out (by rintro (⟨h1, -⟩ | ⟨-, h1⟩) <;> first | omega | exact hf h1)]
    rw [if_neg (fun e => by have := congrArg List.length e; rw [hlen] at this; simp at this; omega)] at h
    rw [List.map_append]
    simp only [List.map_cons, List.map_nil, bts_ext]
    exact h
theorem name_chars (op : Int) : ∀ c ∈ bts (nameOf op), c ≠ 10 ∧ c ≠ 63 := by
  unfold nameOf
  split
  · decide
  split
  · decide
  rename_i h1 h2
  rcases op_cases h1 h2 with rfl | rfl | rfl | rfl | rfl | rfl | rfl | rfl | rfl | rfl | rfl | rfl | rfl | rfl | rfl | rfl | rfl | rfl | rfl | rfl | rfl | rfl | rfl | rfl | rfl | rfl | rfl | rfl | rfl | rfl | rfl | rfl | rfl | rfl | rfl | rfl <;> decide
theorem textOf_line (n : Int) : ∀ c ∈ textOf n, c ≠ 10 := by
  have h := (Num.digs_spec n.natAbs n.natAbs (Nat.le_refl _)).2.1
  intro c hc
  unfold Num.textOf at hc
  split at hc
  · rcases List.mem_cons.1 hc with rfl | hc
    · decide
    · have := h c hc; omega
  · have := h c hc; omega
theorem wordB_line (ch v : Int) : ∀ c ∈ wordB ch v, c ≠ 10 := by
  intro c hc
  unfold wordB at hc
  split at hc
  · exact textOf_line v c hc
  · rcases List.mem_cons.1 hc with rfl | hc
    · decide
    · exact textOf_line v c hc
theorem join_line : ∀ (L : List (List Int)), (∀ w ∈ L, ∀ c ∈ w, c ≠ 10) → ∀ c ∈ joinW L, c ≠ 10
  | [], _ => by simp [joinW]
  | [w], h => by intro c hc; exact h w (by simp) c (by simpa [joinW] using hc)
  | w :: v :: r, h => by
    intro c hc
    simp only [joinW, List.mem_append, List.mem_cons] at hc
    rcases hc with hc | rfl | hc
    · exact h w (by simp) c hc
    · decide
    · exact join_line (v :: r) (fun x hx => h x (List.mem_cons_of_mem _ hx)) c hc
theorem textW_line (op a b c n : Int) : ∀ x ∈ joinW (textW op a b c n), x ≠ 10 := by
  refine join_line _ (fun w hw => ?_)
  unfold textW at hw
  rcases List.mem_cons.1 hw with rfl | hw
  · exact fun x hx => (name_chars op x hx).1
  · obtain ⟨ch, _, rfl⟩ := List.mem_map.1 hw
    exact wordB_line _ _
theorem txt_bts {x : S30} (h : chk x = 0) : bts (txt x) = joinW (textW x.f0 x.f1 x.f2 x.f3 x.f4) := by
  unfold txt isaText
  rw [if_pos (show checkOf _ _ _ _ _ = 0 from h)]
  exact text_bts _ _ _ _ _
theorem txt_pq {x : S30} (h : chk x = 0) (hx : i64S x) : qL (txt x) = x ∧ eL (txt x) = 0 := by
  have hs := txt_size x hx
  have h1 := parse_yes (txt x) (by omega) 0 (check_right h) (txt_bts h)
  rw [Nat.zero_add, pq_f (txt x) (by omega)] at h1
  have h2 := Option.some.inj h1
  unfold qL eL
  rw [h2]
  exact ⟨rfl, rfl⟩
theorem bad_pq (s : ByteArray) (hs : s.size ≤ 1000000) (t : List Int) (h : bts s = 63 :: t) : eL s = 32 := by
  have hno : ∀ op a b c n, Right op a b c n → bts s ≠ joinW (textW op a b c n) := by
    intro op a b c n hr e
    rw [h] at e
    have hne := name_ne hr.hop
    have hb : bts (nameOf op) ≠ [] := by
      intro e2
      apply hne
      have hl : (bts (nameOf op)).length = 0 := by rw [e2]; rfl
      rw [Num.bts_length] at hl
      rw [ByteArray.toList_eq]
      exact List.eq_nil_of_length_eq_zero (by rw [Array.length_toList]; exact hl)
    have hc := name_chars op
    unfold textW at e
    match hn : bts (nameOf op), hb with
    | [], hb => exact hb rfl
    | y :: r, _ =>
      rw [hn] at e hc
      have hy : (63 : Int) = y := by
        cases hm : (bts (formOf op)).map (fun ch => wordB ch (fl a b c n ch)) with
        | nil => rw [hm] at e; simp only [joinW] at e; exact (List.cons.inj e).1
        | cons v vs => rw [hm] at e; simp only [joinW, List.cons_append] at e; exact (List.cons.inj e).1
      exact (hc y (by simp)).2 hy.symm
  have h1 := parse_no s hs 0 hno
  rw [Nat.zero_add, pq_f s hs] at h1
  unfold eL
  rw [Option.some.inj h1]
  rfl
/-- A listed list as bytes. -/
def T (l : List S30) : List Int := l.flatMap fun x => bts (txt x) ++ [10]
theorem lst_ok (l : List S30) : ∀ acc, (lst acc l).2 = 0 → (lst acc l).1 = strOfNums (acc ++ T l) ∧ ∀ x ∈ l, chk x = 0 := by
  induction l with
  | nil => intro acc _; exact ⟨by simp [lst, T], by simp⟩
  | cons x l ih =>
    intro acc h
    unfold lst at h ⊢
    by_cases hc : chk x = 0
    · rw [if_pos hc] at h ⊢
      obtain ⟨h1, h2⟩ := ih _ h
      refine ⟨?_, fun y hy => ?_⟩
      · rw [h1]
        congr 1
        have e : bytesOf (txt x) = bts (txt x) := rfl
        simp [T, e]
      · rcases List.mem_cons.1 hy with rfl | hy
        · exact hc
        · exact h2 y hy
    · rw [if_neg hc] at h
      exact absurd h hc
theorem lst_err (l : List S30) : ∀ acc, (lst acc l).2 ≠ 0 → (lst acc l).1 = ⟨#[]⟩ := by
  induction l with
  | nil => intro acc h; exact absurd rfl h
  | cons x l ih =>
    intro acc h
    unfold lst at h ⊢
    by_cases hc : chk x = 0
    · rw [if_pos hc] at h ⊢; exact ih _ h
    · rw [if_neg hc]
theorem T_byte (l : List S30) : Num.byteB (T l) := by
  intro y hy
  unfold T at hy
  obtain ⟨x, _, hy⟩ := List.mem_flatMap.1 hy
  rcases List.mem_append.1 hy with hy | hy
  · exact bts_byteB _ y hy
  · simp at hy; omega
theorem T_lns (l : List S30) (hc : ∀ x ∈ l, chk x = 0) (b : List Int) : lns [] (T l ++ b) = l.map (fun x => bts (txt x)) ++ lns [] b := by
  induction l with
  | nil => rfl
  | cons x l ih =>
    have e : T (x :: l) ++ b = bts (txt x) ++ 10 :: (T l ++ b) := by simp [T]
    rw [e, lns_line _ _ (by rw [txt_bts (hc x (by simp))]; exact textW_line _ _ _ _ _), ih (fun y hy => hc y (by simp [hy]))]
    simp
theorem T_len (l : List S30) (hin : ∀ x ∈ l, i64S x) : (T l).length ≤ 125 * l.length := by
  induction l with
  | nil => simp [T]
  | cons x l ih =>
    have h1 := txt_size x (hin x (by simp))
    have h2 := ih (fun y hy => hin y (by simp [hy]))
    have e : T (x :: l) = bts (txt x) ++ 10 :: T l := by simp [T]
    rw [e, List.length_append, List.length_cons, Num.bts_length, List.length_cons]
    omega
end Go.Proofs.Ytebjdjdlpmplpaa.FaT
