/- isa.Parse answers an instruction just at that instruction's text. -/
import Derived.Test.YtebjdjdlpmplpaaLpIsa
namespace Go.Proofs.Ytebjdjdlpmplpaa.FaT
open Go.RowKit Go.Proofs.Ytebjdjdlpmplpaa.Tx Go.Proofs.Ytebjdjdlpmplpaa.Isa Go.Proofs.YtebjdjdlpmplpaaW.PrintWords Go.Proofs.YtebjdjdlpmplpaaW.PrintLast
open Num (textOf bts parseOf fitZ)
theorem join_snoc : ∀ (l : List (List Int)) (w : List Int), l ≠ [] → joinW (l ++ [w]) = joinW l ++ 32 :: w := by
  intro l
  induction l with
  | nil => intro w h; exact absurd rfl h
  | cons x r ih =>
    intro w _
    cases r with
    | nil => rfl
    | cons v q =>
      rw [List.cons_append, join_cons x _ (by simp), ih w (by simp), join_cons x (v :: q) (by simp)]
      simp
theorem bts_append (a b : ByteArray) : bts (a ++ b) = bts a ++ bts b := by
  unfold Num.bts
  rw [ByteArray.data_append, Array.toList_append, List.map_append]
theorem bts_numT (n : Int) : bts (numT n) = textOf n := Num.bts_str _ (Num.textOf_byte n)
def wordB (ch v : Int) : List Int := if ch = 110 then textOf v else 114 :: textOf v
def fl (a b c n ch : Int) : Int := if ch = 97 then a else if ch = 98 then b else if ch = 99 then c else n
theorem form_abcn (op : Int) : ∀ ch ∈ bts (formOf op), ch = 97 ∨ ch = 98 ∨ ch = 99 ∨ ch = 110 := by
  unfold formOf
  split
  · decide
  split
  · decide
  rename_i h1 h2
  rcases op_cases h1 h2 with rfl | rfl | rfl | rfl | rfl | rfl | rfl | rfl | rfl | rfl | rfl | rfl | rfl | rfl | rfl | rfl | rfl | rfl | rfl | rfl | rfl | rfl | rfl | rfl | rfl | rfl | rfl | rfl | rfl | rfl | rfl | rfl | rfl | rfl | rfl | rfl <;> decide
theorem bts_piece (a b c n ch : Int) (h : ch = 97 ∨ ch = 98 ∨ ch = 99 ∨ ch = 110) : bts (piece a b c n ch) = 32 :: wordB ch (fl a b c n ch) := by
  rcases h with rfl | rfl | rfl | rfl <;> (unfold piece wordB fl; simp [bts_append, bts_numT]; rfl)
/-- The words of an instruction's text. -/
def textW (op a b c n : Int) : List (List Int) := bts (nameOf op) :: (bts (formOf op)).map fun ch => wordB ch (fl a b c n ch)
theorem textAcc_bts (op a b c n : Int) (p : Nat) (hp : p ≤ (formOf op).size) : bts (textAcc op a b c n p) = joinW (bts (nameOf op) :: ((bts (formOf op)).take p).map fun ch => wordB ch (fl a b c n ch)) := by
  induction p with
  | zero => simp [textAcc, joinW]
  | succ p ih =>
    have hl : p < (bts (formOf op)).length := by rw [Num.bts_length]; omega
    have hb := bt_bts (formOf op) p (by omega)
    rw [textAcc, bts_append, ih (by omega), hb, bts_piece _ _ _ _ _ (form_abcn op _ (List.getElem_mem hl)), List.take_add_one, List.getElem?_eq_getElem hl, Option.toList_some, List.map_append, List.map_singleton, ← List.cons_append, join_snoc _ _ (by simp)]
theorem text_bts (op a b c n : Int) : bts (textAcc op a b c n (formOf op).size) = joinW (textW op a b c n) := by
  rw [textAcc_bts op a b c n _ (Nat.le_refl _), List.take_of_length_le (by rw [Num.bts_length]; exact Nat.le_refl _)]
  rfl
theorem name_blank (op : Int) : ∀ c ∈ bts (nameOf op), c ≠ 32 := by
  unfold nameOf
  split
  · decide
  split
  · decide
  rename_i h1 h2
  rcases op_cases h1 h2 with rfl | rfl | rfl | rfl | rfl | rfl | rfl | rfl | rfl | rfl | rfl | rfl | rfl | rfl | rfl | rfl | rfl | rfl | rfl | rfl | rfl | rfl | rfl | rfl | rfl | rfl | rfl | rfl | rfl | rfl | rfl | rfl | rfl | rfl | rfl | rfl <;> decide
theorem textOf_blank (n : Int) : ∀ c ∈ textOf n, c ≠ 32 := by
  have h := (Num.digs_spec n.natAbs n.natAbs (Nat.le_refl _)).2.1
  intro c hc
  unfold Num.textOf at hc
  split at hc
  · rcases List.mem_cons.1 hc with rfl | hc
    · decide
    · have := h c hc; omega
  · have := h c hc; omega
theorem wordB_blank (ch v : Int) : ∀ c ∈ wordB ch v, c ≠ 32 := by
  intro c hc
  unfold wordB at hc
  split at hc
  · exact textOf_blank v c hc
  · rcases List.mem_cons.1 hc with rfl | hc
    · decide
    · exact textOf_blank v c hc
theorem split_text (op a b c n : Int) : splitW [] (joinW (textW op a b c n)) = textW op a b c n := by
  refine split_join _ (by simp [textW]) ?_
  intro w hw
  unfold textW at hw
  rcases List.mem_cons.1 hw with rfl | hw
  · exact name_blank op
  · obtain ⟨ch, _, rfl⟩ := List.mem_map.1 hw
    exact wordB_blank _ _
/-! ### The letters of a form, read -/
def pv (w : ByteArray) : Option Int := if (parseOf w).2 = 0 then some (parseOf w).1 else none
def wordVal (ch : Int) (w : ByteArray) : Option Int :=
  if ch = 110 then pv w else if (w.size : Int) < 2 then none else if bt w 0 = 114 then pv (w.extract 1 w.size) else none
structure Fs where
  a : Int
  b : Int
  c : Int
  n : Int
def upd (q : Fs) (ch v : Int) : Fs := if ch = 97 then { q with a := v } else if ch = 98 then { q with b := v } else if ch = 99 then { q with c := v } else { q with n := v }
def pl : List Int → List ByteArray → Fs → Option Fs
  | [], _, q => some q
  | ch :: r, w :: ws, q => match wordVal ch w with | none => none | some v => pl r ws (upd q ch v)
  | _ :: _, [], _ => none
def err : Int × Int × Int × Int × Int × Int := (0, 0, 0, 0, 0, 32)
def fin (op : Int) : Option Fs → Int × Int × Int × Int × Int × Int
  | none => err
  | some q => if checkOf op q.a q.b q.c q.n = 0 then (op, q.a, q.b, q.c, q.n, 0) else err
theorem numParse_f (w : ByteArray) (h : w.size ≤ 1000000) : num_Parse.f w = some (parseOf w) := if_pos (by omega)
theorem parse_l1 (F : ByteArray) (L : List ByteArray) (op : Int) (hF : F.size ≤ 3) (hL : L.length = F.size + 1) (hsz : ∀ w ∈ L, w.size ≤ 1000000) (m : Nat) : ∀ (i k : Nat) (q : Fs), i + m = F.size →
    isa_Parse.l1 (k + 2 * m + 1) L F (i : Int) op q.a q.b q.c q.n = some (fin op (pl ((bts F).drop i) (L.drop (i + 1)) q)) := by
  induction m with
  | zero =>
    intro i k q h
    rw [isa_Parse.l1, if_neg (by omega), List.drop_of_length_le (by rw [Num.bts_length]; omega), icheck_f, Option.bind_some]
    have e : fin op (pl [] (L.drop (i + 1)) q) = if checkOf op q.a q.b q.c q.n = 0 then (op, q.a, q.b, q.c, q.n, 0) else err := by rw [pl]; rfl
    rw [e]
    by_cases h0 : checkOf op q.a q.b q.c q.n = 0
    · rw [if_pos h0, if_pos h0]
    · rw [if_neg h0, if_neg h0]; rfl
  | succ m ih =>
    intro i k q h
    have hi : i < F.size := by omega
    have hd : (bts F).drop i = bt F i :: (bts F).drop (i + 1) := by
      rw [bt_bts F i hi]; exact List.drop_eq_getElem_cons _
    have hl : i + 1 < L.length := by omega
    have hd2 : L.drop (i + 1) = L[i + 1] :: L.drop (i + 1 + 1) := List.drop_eq_getElem_cons _
    have hw : wrap64 ((i : Int) + 1) = ((i + 1 : Nat) : Int) := by unfold wrap64; omega
    have hr : rdOf ByteArray.empty L ((i + 1 : Nat) : Int) = L[i + 1] := by
      unfold rdOf; rw [Int.toNat_natCast, List.getD_eq_getElem?_getD, List.getElem?_eq_getElem hl]; rfl
    have hws := hsz _ (List.getElem_mem hl)
    generalize hW : L[i + 1] = w at *
    have hj4 : ∀ x : ByteArray, x.size ≤ 1000000 → isa_Parse.j4 (k + 2 * m + 2) L F (i : Int) x op q.a q.b q.c q.n = some (fin op (match pv x with | none => none | some v => pl ((bts F).drop (i + 1)) (L.drop (i + 1 + 1)) (upd q (bt F i) v))) := by
      intro x hx
      rw [isa_Parse.j4, numParse_f x hx, Option.bind_some]
      unfold pv
      by_cases h0 : (parseOf x).2 = 0
      · rw [if_pos h0, if_pos h0, if_pos (by omega), if_pos (by omega), hw]
        dsimp only
        unfold upd
        by_cases h1 : bt F (i : Int) = 97
        · rw [if_pos h1, if_pos h1]; exact ih (i + 1) k { q with a := (parseOf x).1 } (by omega)
        rw [if_neg h1, if_neg h1]
        by_cases h2 : bt F (i : Int) = 98
        · rw [if_pos h2, if_pos h2]; exact ih (i + 1) k { q with b := (parseOf x).1 } (by omega)
        rw [if_neg h2, if_neg h2]
        by_cases h3 : bt F (i : Int) = 99
        · rw [if_pos h3, if_pos h3]; exact ih (i + 1) k { q with c := (parseOf x).1 } (by omega)
        rw [if_neg h3, if_neg h3]
        exact ih (i + 1) k { q with n := (parseOf x).1 } (by omega)
      · rw [if_neg h0, if_neg h0]; rfl
    rw [show k + 2 * (m + 1) + 1 = (k + 2 * m + 2) + 1 from rfl, isa_Parse.l1, if_pos (by omega), hw, if_pos (by omega), if_pos (by omega), if_pos (by omega), hr, hd, hd2]
    rw [pl]
    unfold wordVal
    by_cases h1 : bt F (i : Int) = 110
    · rw [if_pos h1, if_pos h1]; exact hj4 w hws
    rw [if_neg h1, if_neg h1]
    by_cases h2 : (w.size : Int) < 2
    · rw [if_pos h2, if_pos h2]; rfl
    rw [if_neg h2, if_neg h2, if_pos (by omega)]
    by_cases h3 : bt w 0 = 114
    · rw [if_pos h3, if_pos h3, if_pos (by omega)]
      exact hj4 _ (by rw [ByteArray.size_extract]; omega)
    · rw [if_neg h3, if_neg h3]; rfl
theorem parse_j1 (k : Nat) (L : List ByteArray) (op : Int) (hsz : ∀ w ∈ L, w.size ≤ 1000000) :
    isa_Parse.j1 (k + 9) L op = some (if op > 36 then err else if L.length = (formOf op).size + 1 then fin op (pl (bts (formOf op)) (L.drop 1) ⟨0, 0, 0, 0⟩) else err) := by
  have hf := form_small op
  have hw : wrap64 (((formOf op).size : Int) + 1) = (((formOf op).size + 1 : Nat) : Int) := by unfold wrap64; omega
  rw [isa_Parse.j1, show isa_Form.f op = some (formOf op) from rfl, Option.bind_some]
  by_cases h : op > 36
  · rw [if_pos h, if_pos h, isa_Parse.j2, if_pos rfl]; rfl
  · rw [if_neg h, if_neg h, hw, isa_Parse.j2]
    by_cases hl : L.length = (formOf op).size + 1
    · rw [if_pos hl, if_neg (by simp; omega)]
      have := parse_l1 (formOf op) L op hf hl hsz (formOf op).size 0 (k + 6 - 2 * (formOf op).size) ⟨0, 0, 0, 0⟩ (by omega)
      rw [show k + 6 - 2 * (formOf op).size + 2 * (formOf op).size + 1 = k + 7 by omega] at this
      exact this
    · rw [if_neg hl, if_pos (by simp; omega)]; rfl
theorem parse_l0 (L : List ByteArray) (hL : 0 < L.length) (op : Int) (d : Nat) : ∀ (k : Nat) (x : Int), 1 ≤ x → x + d = op → op ≤ 37 → (∀ j, x ≤ j → j < op → nameOf j ≠ L[0]) → (op = 37 ∨ nameOf op = L[0]) →
    isa_Parse.l0 (k + d + 1) L x = isa_Parse.j1 k L op := by
  have hr : rdOf ByteArray.empty L 0 = L[0] := by
    unfold rdOf; rw [show (0 : Int).toNat = 0 from rfl, List.getD_eq_getElem?_getD, List.getElem?_eq_getElem hL]; rfl
  induction d with
  | zero =>
    intro k x h1 hx ho hno hyes
    obtain rfl : x = op := by omega
    rw [isa_Parse.l0]
    by_cases h : x ≤ 36
    · have hn : nameOf x = L[0] := by rcases hyes with h2 | h2; · omega
                                      · exact h2
      rw [if_pos h, show isa_Name.f x = some (nameOf x) from rfl, Option.bind_some, if_pos (by omega), hr, if_pos (by rw [hn])]
    · rw [if_neg h]
  | succ d ih =>
    intro k x h1 hx ho hno hyes
    have hw : wrap64 (x + 1) = x + 1 := by unfold wrap64; omega
    rw [show k + (d + 1) + 1 = (k + d + 1) + 1 from rfl, isa_Parse.l0, if_pos (by omega), show isa_Name.f x = some (nameOf x) from rfl, Option.bind_some, if_pos (by omega), hr, if_neg (fun h => hno x (by omega) (by omega) (Num.toList_inj h)), hw]
    exact ih k (x + 1) (by omega) (by omega) ho (fun j hj1 hj2 => hno j (by omega) hj2) hyes

/-! ### A right instruction's text is read, and no other -/
theorem pv_iff (w : ByteArray) (v : Int) : pv w = some v ↔ bts w = textOf v ∧ fitZ v := by
  unfold pv
  constructor
  · intro h
    unfold Num.parseOf at h
    split at h
    · rename_i hc
      simp only [if_true, Option.some.injEq] at h
      subst h
      obtain ⟨h1, h2⟩ := hc
      refine ⟨?_, h1⟩
      conv => lhs; rw [← h2]
      exact Num.bts_str _ (Num.textOf_byte _)
    · cases h
  · rintro ⟨h1, h2⟩
    have : w = strOfNums (textOf v) := by rw [← h1, Num.str_bts]
    rw [this, Num.parseOf_text h2]
    rfl
theorem textOf_pos (v : Int) : 1 ≤ (textOf v).length := by
  unfold Num.textOf
  have := Num.digs_pos v.natAbs
  split <;> simp <;> omega
theorem wv_iff (ch : Int) (w : ByteArray) (v : Int) : wordVal ch w = some v ↔ bts w = wordB ch v ∧ fitZ v := by
  unfold wordVal wordB
  by_cases h : ch = 110
  · rw [if_pos h, if_pos h]; exact pv_iff w v
  rw [if_neg h, if_neg h]
  have hl := Num.bts_length w
  by_cases h2 : (w.size : Int) < 2
  · rw [if_pos h2]
    constructor
    · intro hh; cases hh
    · rintro ⟨h3, _⟩
      rw [h3, List.length_cons] at hl
      have := textOf_pos v
      omega
  rw [if_neg h2]
  have hd : bts w = bt w 0 :: (bts w).drop 1 := by
    have h0 := bt_bts w 0 (by omega)
    have := List.drop_eq_getElem_cons (l := bts w) (i := 0) (by omega)
    rw [List.drop_zero] at this
    rw [show ((0 : Nat) : Int) = 0 from rfl] at h0
    rw [h0]; exact this
  by_cases h3 : bt w 0 = 114
  · rw [if_pos h3, pv_iff, Num.bts_extract, hd, h3]
    simp
  · rw [if_neg h3]
    constructor
    · intro hh; cases hh
    · rintro ⟨h4, _⟩
      rw [h4] at hd
      exact absurd (List.cons.inj hd).1.symm h3
def abcn (ch : Int) : Prop := ch = 97 ∨ ch = 98 ∨ ch = 99 ∨ ch = 110
def flq (q : Fs) (ch : Int) : Int := fl q.a q.b q.c q.n ch
theorem flq_upd (q : Fs) (ch v : Int) (h : abcn ch) : flq (upd q ch v) ch = v := by
  rcases h with rfl | rfl | rfl | rfl <;> rfl
theorem flq_far (q : Fs) (ch x v : Int) (h : abcn ch) (hx : abcn x) (hne : x ≠ ch) : flq (upd q x v) ch = flq q ch := by
  rcases h with rfl | rfl | rfl | rfl <;> rcases hx with rfl | rfl | rfl | rfl <;> first | rfl | exact absurd rfl hne
theorem pl_keep : ∀ (r : List Int) (ws : List ByteArray) (q q' : Fs) (ch : Int), pl r ws q = some q' → abcn ch → (∀ x ∈ r, abcn x) → ch ∉ r → flq q' ch = flq q ch := by
  intro r
  induction r with
  | nil => intro ws q q' ch h _ _ _; rw [pl] at h; rw [Option.some.inj h]
  | cons x r ih =>
    intro ws q q' ch h hc hr hn
    cases ws with
    | nil => simp [pl] at h
    | cons w ws =>
      rw [pl] at h
      cases hv : wordVal x w with
      | none => rw [hv] at h; cases h
      | some v =>
        rw [hv] at h
        rw [ih ws (upd q x v) q' ch h hc (fun y hy => hr y (by simp [hy])) (fun hh => hn (by simp [hh]))]
        exact flq_far q ch x v hc (hr x (by simp)) (fun e => hn (by simp [e]))
theorem pl_sound : ∀ (l : List Int) (ws : List ByteArray) (q q' : Fs), pl l ws q = some q' → l.Nodup → (∀ x ∈ l, abcn x) → ws.length = l.length → ws.map bts = l.map fun ch => wordB ch (flq q' ch) := by
  intro l
  induction l with
  | nil => intro ws q q' _ _ _ hl; cases ws with
    | nil => rfl
    | cons w ws => simp at hl
  | cons x r ih =>
    intro ws q q' h hnd hr hl
    cases ws with
    | nil => simp at hl
    | cons w ws =>
      rw [pl] at h
      cases hv : wordVal x w with
      | none => rw [hv] at h; cases h
      | some v =>
        rw [hv] at h
        obtain ⟨hx, hnd'⟩ := List.nodup_cons.1 hnd
        have h1 := ih ws (upd q x v) q' h hnd' (fun y hy => hr y (by simp [hy])) (by simpa using hl)
        have h2 := pl_keep r ws (upd q x v) q' x h (hr x (by simp)) (fun y hy => hr y (by simp [hy])) hx
        rw [List.map_cons, List.map_cons, h1, h2, flq_upd q x v (hr x (by simp)), ((wv_iff x w v).1 hv).1]
theorem pl_yes (a b c n : Int) : ∀ (l : List Int) (q : Fs), (∀ x ∈ l, fitZ (fl a b c n x)) → pl l (l.map fun ch => strOfNums (wordB ch (fl a b c n ch))) q = some (l.foldl (fun q ch => upd q ch (fl a b c n ch)) q) := by
  intro l
  induction l with
  | nil => intro q _; rw [List.map_nil, pl]; rfl
  | cons x r ih =>
    intro q h
    have hb : Num.byteB (wordB x (fl a b c n x)) := by
      have := Num.textOf_byte (fl a b c n x)
      unfold wordB
      split
      · exact this
      · intro y hy
        rcases List.mem_cons.1 hy with rfl | hy
        · omega
        · exact this y hy
    have hv : wordVal x (strOfNums (wordB x (fl a b c n x))) = some (fl a b c n x) := (wv_iff x _ _).2 ⟨Num.bts_str _ hb, h x (by simp)⟩
    rw [List.map_cons, pl, hv]
    dsimp only
    rw [ih _ (fun y hy => h y (by simp [hy])), List.foldl_cons]
theorem fold_field (a b c n ch : Int) (hc : abcn ch) : ∀ (l : List Int) (q : Fs), (∀ x ∈ l, abcn x) → flq (l.foldl (fun q x => upd q x (fl a b c n x)) q) ch = if l.any (· == ch) = true then fl a b c n ch else flq q ch := by
  intro l
  induction l with
  | nil => intro q _; rfl
  | cons x r ih =>
    intro q h
    rw [List.foldl_cons, ih _ (fun y hy => h y (by simp [hy])), List.any_cons]
    by_cases he : x = ch
    · subst he
      rw [beq_self_eq_true, Bool.true_or, if_pos rfl, flq_upd q x _ hc]
      split <;> rfl
    · rw [beq_eq_false_iff_ne.2 he, Bool.false_or, flq_far q ch x _ hc (h x (by simp)) he]
theorem form_nodup (op : Int) : (bts (formOf op)).Nodup := by
  unfold formOf
  split
  · decide
  split
  · decide
  rename_i h1 h2
  rcases op_cases h1 h2 with rfl | rfl | rfl | rfl | rfl | rfl | rfl | rfl | rfl | rfl | rfl | rfl | rfl | rfl | rfl | rfl | rfl | rfl | rfl | rfl | rfl | rfl | rfl | rfl | rfl | rfl | rfl | rfl | rfl | rfl | rfl | rfl | rfl | rfl | rfl | rfl <;> decide
theorem fold_form {op a b c n : Int} (h : Right op a b c n) : (bts (formOf op)).foldl (fun q x => upd q x (fl a b c n x)) ⟨0, 0, 0, 0⟩ = ⟨a, b, c, n⟩ := by
  have ha := fold_field a b c n 97 (by unfold abcn; omega) (bts (formOf op)) ⟨0, 0, 0, 0⟩ (form_abcn op)
  have hb := fold_field a b c n 98 (by unfold abcn; omega) (bts (formOf op)) ⟨0, 0, 0, 0⟩ (form_abcn op)
  have hc := fold_field a b c n 99 (by unfold abcn; omega) (bts (formOf op)) ⟨0, 0, 0, 0⟩ (form_abcn op)
  have hn := fold_field a b c n 110 (by unfold abcn; omega) (bts (formOf op)) ⟨0, 0, 0, 0⟩ (form_abcn op)
  generalize (bts (formOf op)).foldl (fun q x => upd q x (fl a b c n x)) ⟨0, 0, 0, 0⟩ = q at *
  obtain ⟨qa, qb, qc, qn⟩ := q
  have fin_ : ∀ (z x y : Int) (p : Bool), x = (if p = true then z else 0) → (p = false → z = 0) → x = z := by
    intro z x _ p h1 h2
    cases p with
    | true => rw [if_pos rfl] at h1; exact h1
    | false => rw [if_neg (by decide)] at h1; rw [h1, h2 rfl]
  have e1 : qa = a := fin_ a qa 0 _ ha h.a0
  have e2 : qb = b := fin_ b qb 0 _ hb h.b0
  have e3 : qc = c := fin_ c qc 0 _ hc h.c0
  have e4 : qn = n := fin_ n qn 0 _ hn h.n0
  rw [e1, e2, e3, e4]
theorem name_inj {i j : Int} (hi : opIn i) (hj : opIn j) (h : nameOf i = nameOf j) : i = j := by
  have hall : ∀ a, a < 37 → ∀ b, b < 37 → 1 ≤ a → 1 ≤ b → nameAt a = nameAt b → a = b := by decide +kernel
  have e : ∀ {x : Int}, opIn x → nameOf x = nameAt x.toNat := by
    intro x hx; unfold nameOf; rw [if_neg hx.1, if_neg hx.2]
  unfold opIn at hi hj
  rw [e hi, e hj] at h
  have := hall i.toNat (by omega) j.toNat (by omega) (by omega) (by omega) h
  omega
theorem words_small (s : ByteArray) (hs : s.size ≤ 1000000) : ∀ w ∈ wordsL s, w.size ≤ 1000000 := by
  have hall : ∀ (l cur : List Int), ∀ w ∈ splitW cur l, w.length ≤ cur.length + l.length := by
    intro l
    induction l with
    | nil => intro cur w hw; simp [splitW] at hw; subst hw; simp
    | cons c r ih =>
      intro cur w hw
      rw [splitW] at hw
      split at hw
      · rcases List.mem_cons.1 hw with rfl | hw
        · simp
        · have := ih [] w hw; simp at this ⊢; omega
      · have := ih _ w hw; simp at this ⊢; omega
  intro w hw
  unfold wordsL at hw
  obtain ⟨x, hx, rfl⟩ := List.mem_map.1 hw
  have := hall _ _ x hx
  rw [size_strOfNums]
  rw [Num.bts_length] at this
  simpa using Nat.le_trans this (by simpa using hs)
theorem split_byte (s : ByteArray) : ∀ w ∈ splitW [] (bts s), Num.byteB w := by
  have hall : ∀ (l cur : List Int), Num.byteB cur → Num.byteB l → ∀ w ∈ splitW cur l, Num.byteB w := by
    intro l
    induction l with
    | nil => intro cur h1 _ w hw; simp [splitW] at hw; subst hw; exact h1
    | cons c r ih =>
      intro cur h1 h2 w hw
      rw [splitW] at hw
      have hr : Num.byteB r := fun x hx => h2 x (by simp [hx])
      split at hw
      · rcases List.mem_cons.1 hw with rfl | hw
        · exact h1
        · exact ih [] (fun x hx => by cases hx) hr w hw
      · refine ih _ ?_ hr w hw
        intro x hx
        rcases List.mem_append.1 hx with hx | hx
        · exact h1 x hx
        · simp at hx; subst hx; exact h2 x (by simp)
  exact hall _ _ (fun x hx => by cases hx) (Num.bts_byte s)
theorem first_match (n0 : ByteArray) (d : Nat) : ∀ x : Int, 1 ≤ x → x + d = 37 → ∃ op, x ≤ op ∧ op ≤ 37 ∧ (∀ j, x ≤ j → j < op → nameOf j ≠ n0) ∧ (op = 37 ∨ nameOf op = n0) := by
  induction d with
  | zero => intro x _ hx; exact ⟨37, by omega, by omega, fun j _ _ => by omega, .inl rfl⟩
  | succ d ih =>
    intro x h1 hx
    by_cases h : nameOf x = n0
    · exact ⟨x, by omega, by omega, fun j _ _ => by omega, .inr h⟩
    · obtain ⟨op, h2, h3, h4, h5⟩ := ih (x + 1) (by omega) (by omega)
      refine ⟨op, by omega, h3, fun j hj1 hj2 => ?_, h5⟩
      by_cases he : j = x
      · subst he; exact h
      · exact h4 j (by omega) hj2
theorem parse_at (s : ByteArray) (hs : s.size ≤ 1000000) (op : Int) (h1 : 1 ≤ op) (h37 : op ≤ 37) (k : Nat) (hL : 0 < (wordsL s).length) (hno : ∀ j, 1 ≤ j → j < op → nameOf j ≠ (wordsL s)[0]) (hyes : op = 37 ∨ nameOf op = (wordsL s)[0]) :
    isa_Parse.f (k + s.size + 60) s = some (if op > 36 then err else if (wordsL s).length = (formOf op).size + 1 then fin op (pl (bts (formOf op)) ((wordsL s).drop 1) ⟨0, 0, 0, 0⟩) else err) := by
  unfold isa_Parse.f
  rw [show k + s.size + 60 = (k + 58) + s.size + 2 by omega, words_f s hs, Option.bind_some]
  have := parse_l0 (wordsL s) hL op (op - 1).toNat (k + 58 + s.size + 1 - (op - 1).toNat) 1 (by omega) (by omega) h37 hno hyes
  rw [show k + 58 + s.size + 1 - (op - 1).toNat + (op - 1).toNat + 1 = k + 58 + s.size + 2 by omega] at this
  rw [this, show k + 58 + s.size + 1 - (op - 1).toNat = (k + 58 + s.size + 1 - (op - 1).toNat - 9) + 9 by omega]
  exact parse_j1 _ (wordsL s) op (words_small s hs)
theorem words_pos (s : ByteArray) : 0 < (wordsL s).length := by
  unfold wordsL
  rw [List.length_map]
  exact List.length_pos_iff.2 (split_ne _ _)
/-- An instruction's text is read. -/
theorem parse_yes (s : ByteArray) (hs : s.size ≤ 1000000) (k : Nat) {op a b c n : Int} (h : Right op a b c n) (ht : bts s = joinW (textW op a b c n)) : isa_Parse.f (k + s.size + 60) s = some (op, a, b, c, n, 0) := by
  have hi := h.hop
  have hW : wordsL s = nameOf op :: (bts (formOf op)).map fun ch => strOfNums (wordB ch (fl a b c n ch)) := by
    unfold wordsL
    rw [ht, split_text]
    unfold textW
    rw [List.map_cons, Num.str_bts, List.map_map]
    rfl
  have h0 : (wordsL s)[0]'(words_pos s) = nameOf op := by simp only [hW, List.getElem_cons_zero]
  rw [parse_at s hs op (by unfold opIn at hi; omega) (by unfold opIn at hi; omega) k (words_pos s) (fun j hj1 hj2 he => by
    rw [h0] at he
    have := name_inj (i := j) (j := op) (by unfold opIn at hi ⊢; omega) hi he
    omega) (.inr h0.symm)]
  have hfit : ∀ x ∈ bts (formOf op), fitZ (fl a b c n x) := by
    intro x _
    have := h.ha; have := h.hb; have := h.hc; have := h.hn
    unfold Num.fitZ fl
    split
    · omega
    split
    · omega
    split <;> omega
  rw [if_neg (by unfold opIn at hi; omega), hW, if_pos (by rw [List.length_cons, List.length_map, Num.bts_length]), List.drop_one, List.tail_cons, pl_yes a b c n _ _ hfit, fold_form h]
  unfold fin
  dsimp only
  rw [if_pos (right_check h)]
/-- No other text is. -/
theorem parse_no (s : ByteArray) (hs : s.size ≤ 1000000) (k : Nat) (h : ∀ op a b c n, Right op a b c n → bts s ≠ joinW (textW op a b c n)) : isa_Parse.f (k + s.size + 60) s = some err := by
  obtain ⟨op, h1, h2, h3, h4⟩ := first_match ((wordsL s)[0]'(words_pos s)) 36 1 (by omega) (by omega)
  rw [parse_at s hs op h1 h2 k (words_pos s) h3 h4]
  by_cases h36 : op > 36
  · rw [if_pos h36]
  rw [if_neg h36]
  by_cases hlen : (wordsL s).length = (formOf op).size + 1
  · rw [if_pos hlen]
    have hn : nameOf op = (wordsL s)[0]'(words_pos s) := by rcases h4 with h4 | h4; · omega
                                                            · exact h4
    cases hp : pl (bts (formOf op)) ((wordsL s).drop 1) ⟨0, 0, 0, 0⟩ with
    | none => rfl
    | some q =>
      unfold fin
      dsimp only
      by_cases hc : checkOf op q.a q.b q.c q.n = 0
      · exfalso
        refine h op q.a q.b q.c q.n (check_right hc) ?_
        have hs2 := pl_sound _ _ _ q hp (form_nodup op) (form_abcn op) (by rw [List.length_drop, hlen, Num.bts_length]; omega)
        have hj : bts s = joinW (splitW [] (bts s)) := by rw [join_split]; rfl
        rw [hj]
        congr 1
        have hWb : (wordsL s).map bts = splitW [] (bts s) := by
          unfold wordsL
          rw [List.map_map]
          conv => rhs; rw [← List.map_id (splitW [] (bts s))]
          exact List.map_congr_left fun w hw => Num.bts_str w (split_byte s w hw)
        rw [← hWb]
        have hcons : wordsL s = (wordsL s)[0]'(words_pos s) :: (wordsL s).drop 1 := by
          have := List.drop_eq_getElem_cons (l := wordsL s) (i := 0) (words_pos s)
          rw [List.drop_zero] at this
          exact this
        rw [hcons, ← hn, List.map_cons, hs2]
        rfl
      · rw [if_neg hc]
  · rw [if_neg hlen]
end Go.Proofs.Ytebjdjdlpmplpaa.FaT
