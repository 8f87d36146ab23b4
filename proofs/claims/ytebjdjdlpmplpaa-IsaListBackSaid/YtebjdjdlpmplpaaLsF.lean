/- What isa.List computes, and that a list is like itself: lists of at most 5000 instructions. -/
import Derived.Test.YtebjdjdlpmplpaaLn3
import Derived.Test.YtebjdjdlpmplpaaLn4
import Derived.Test.YtebjdjdlpmplpaaRdF
namespace Go.Proofs.Ytebjdjdlpmplpaa.FaT
open Go.RowKit Go.Proofs.Ytebjdjdlpmplpaa.Tx Go.Proofs.Ytebjdjdlpmplpaa.Isa Go.Proofs.YtebjdjdlpmplpaaW.PrintWords Go.Proofs.YtebjdjdlpmplpaaW.PrintLast
open Num (textOf bts)
def i64S (x : S30) : Prop := i64in x.f0 ∧ i64in x.f1 ∧ i64in x.f2 ∧ i64in x.f3 ∧ i64in x.f4
def chk (x : S30) : Int := checkOf x.f0 x.f1 x.f2 x.f3 x.f4
def txt (x : S30) : ByteArray := isaText x.f0 x.f1 x.f2 x.f3 x.f4
/-- A list as text, behind what is there; or the first wrong instruction's error. -/
def lst (acc : List Int) : List S30 → ByteArray × Int
  | [] => (strOfNums acc, 0)
  | x :: t => if chk x = 0 then lst (acc ++ bytesOf (txt x) ++ [10]) t else (⟨#[]⟩, chk x)
theorem join_len : ∀ (L : List (List Int)), (∀ w ∈ L, w.length ≤ 30) → (joinW L).length ≤ 31 * L.length
  | [], _ => by simp [joinW]
  | [w], h => by have := h w (by simp); simp only [joinW, List.length_singleton]; omega
  | w :: v :: r, h => by
    have h1 := h w (by simp)
    have h2 := join_len (v :: r) (fun x hx => h x (by simp [List.mem_cons] at hx ⊢; exact .inr hx))
    simp only [joinW, List.length_append, List.length_cons] at h2 ⊢
    omega
theorem word_len {ch v : Int} (hv : i64in v) : (wordB ch v).length ≤ 30 := by
  have := numT_small _ hv
  unfold numT at this
  rw [size_strOfNums] at this
  unfold wordB
  split
  · omega
  · rw [List.length_cons]; omega
theorem fl_in {a b c n : Int} (ch : Int) (ha : i64in a) (hb : i64in b) (hc : i64in c) (hn : i64in n) : i64in (fl a b c n ch) := by
  unfold fl
  split
  · exact ha
  · split
    · exact hb
    · split
      · exact hc
      · exact hn
theorem txt_size (x : S30) (hx : i64S x) : (txt x).size ≤ 124 := by
  obtain ⟨-, ha, hb, hc, hn⟩ := hx
  unfold txt isaText
  split
  · have h := congrArg List.length (text_bts x.f0 x.f1 x.f2 x.f3 x.f4)
    rw [Num.bts_length] at h
    have hj := join_len (textW x.f0 x.f1 x.f2 x.f3 x.f4) (by
      intro w hw
      unfold textW at hw
      rcases List.mem_cons.1 hw with rfl | hw
      · rw [Num.bts_length]; have := name_small x.f0; omega
      · obtain ⟨ch, _, rfl⟩ := List.mem_map.1 hw
        exact word_len (fl_in ch ha hb hc hn))
    have hl : (textW x.f0 x.f1 x.f2 x.f3 x.f4).length ≤ 4 := by
      unfold textW
      rw [List.length_cons, List.length_map, Num.bts_length]
      have := form_small x.f0
      omega
    omega
  · exact Nat.zero_le _
theorem rd30_at (l : List S30) (i : Nat) (h : i < l.length) : rd_T30 l (i : Int) = l[i] := by
  simp [rd_T30, List.getD, h]
theorem isa_list_from (l : List S30) (hl : l.length ≤ 5000) (hin : ∀ x ∈ l, i64S x) : ∀ d i (acc : List Int), i + d = l.length → acc.length ≤ 125 * i → isa_List.l0 (d + 1) acc l (l.length : Int) (i : Int) = some (lst acc (l.drop i)) := by
  intro d
  induction d with
  | zero =>
    intro i acc hi _
    unfold isa_List.l0
    rw [if_neg (by omega), List.drop_of_length_le (by omega)]
    rfl
  | succ d ih =>
    intro i acc hi hacc
    have hlt : i < l.length := by omega
    have hw : wrap64 ((i : Int) + 1) = ((i + 1 : Nat) : Int) := by unfold wrap64; omega
    have hx := hin _ (List.getElem_mem hlt)
    have ht := txt_size _ hx
    unfold isa_List.l0
    rw [if_pos (by omega), if_pos (by omega), if_pos (by omega), rd30_at l i hlt, List.drop_eq_getElem_cons hlt]
    rw [show isa_Check.f l[i].f0 l[i].f1 l[i].f2 l[i].f3 l[i].f4 = some (chk l[i]) from rfl, Option.bind_some]
    unfold lst
    by_cases hc : chk l[i] = 0
    · rw [if_pos hc, if_pos hc]
      rw [show isa_Text.f l[i].f0 l[i].f1 l[i].f2 l[i].f3 l[i].f4 = some (txt l[i]) from if_pos ⟨hx.2.1, hx.2.2.1, hx.2.2.2.1, hx.2.2.2.2⟩, Option.bind_some]
      rw [if_pos (by omega), Option.bind_some, if_pos (by rw [List.length_append, bytesOf_length]; omega), hw]
      exact ih (i + 1) _ (by omega) (by rw [List.length_append, List.length_append, bytesOf_length, List.length_singleton]; omega)
    · rw [if_neg hc, if_neg hc]
def listOf (l : List S30) : ByteArray × Int := if 4096 < l.length then (⟨#[]⟩, 3) else lst [] l
theorem isa_list_f (l : List S30) (hl : l.length ≤ 5000) (hin : ∀ x ∈ l, i64S x) (K : Nat) (hK : l.length + 1 ≤ K) : isa_List.f K l = some (listOf l) := by
  unfold isa_List.f listOf
  by_cases h : 4096 < l.length
  · rw [if_pos (by omega), if_pos h]
  · rw [if_neg (by omega), if_neg h]
    have hf := isa_list_from l hl hin l.length 0 [] (by omega) (by simp)
    obtain ⟨d, rfl⟩ : ∃ d, K = l.length + 1 + d := ⟨K - (l.length + 1), by omega⟩
    have hm : ∀ e, isa_List.l0 (l.length + 1 + e) [] l (l.length : Int) 0 = some (lst [] (l.drop 0)) := by
      intro e
      induction e with
      | zero => exact hf
      | succ e ih => exact (isa_List.mono_l (l.length + 1 + e)) _ _ _ _ _ ih
    exact hm d
theorem same_from (l : List S30) (hl : l.length ≤ 9000) : ∀ d i, i + d = l.length → ∀ e, kindlingref03_SameIns.l0 (d + 1 + e) l l (i : Int) = some true := by
  intro d
  induction d with
  | zero =>
    intro i hi e
    rw [show 0 + 1 + e = e + 1 from by omega]
    unfold kindlingref03_SameIns.l0
    rw [if_neg (by omega)]
  | succ d ih =>
    intro i hi e
    have hw : wrap64 ((i : Int) + 1) = ((i + 1 : Nat) : Int) := by unfold wrap64; omega
    rw [show d + 1 + 1 + e = (d + 1 + e) + 1 from by omega]
    unfold kindlingref03_SameIns.l0
    rw [if_pos (by omega), if_pos (by omega), if_pos (by omega), hw, if_neg (by simp)]
    exact ih (i + 1) (by omega) e
theorem same_f (l : List S30) (hl : l.length ≤ 9000) (K : Nat) (hK : l.length + 1 ≤ K) : kindlingref03_SameIns.f K l l = some true := by
  obtain ⟨e, rfl⟩ : ∃ e, K = l.length + 1 + e := ⟨K - (l.length + 1), by omega⟩
  unfold kindlingref03_SameIns.f
  rw [if_pos rfl]
  exact same_from l hl l.length 0 (by omega) e
end Go.Proofs.Ytebjdjdlpmplpaa.FaT
