/- IsaListBack at every list of instructions and every text, as a walk: the law answers true, and of what was there nothing has turned. -/
import Derived.Test.YtebjdjdlpmplpaaLsB
import Derived.Test.YtebjdjdlpmplpaaLn6
import Derived.Test.YtebjdjdlpmplpaaOpenS
namespace Go.Proofs.Ytebjdjdlpmplpaa.Pure
open Go.RowKit Go.Proofs.Ytebjdjdlpmplpaa.Tx Go.Proofs.Ytebjdjdlpmplpaa.FaT Go.Proofs.Ytebjdjdlpmplpaa.Isa Go.Proofs.YtebjdjdlpmplpaaW.PrintWords Go.Proofs.YtebjdjdlpmplpaaW.PrintLast
open Num (bts)
open Ln (linesOf scan scan_le prs St St_snoc stepR cut cut_lines prs_snoc readOf)
theorem prs_take' (L : List ByteArray) (i : Nat) (h : i < L.length) : prs (L.take (i + 1)) = prs (L.take i) ++ [(i, L[i])] := by
  rw [List.take_succ_eq_append_getElem h, prs_snoc, List.length_take]
  congr 3
  omega
theorem cut_at (s : ByteArray) (i : Nat) (h : i < (linesOf s).length) : cut s (linesOf s)[i] = (linesOf s)[i] := cut_lines s (s.size + 1) _ (List.getElem_mem h)
theorem st_good (s : ByteArray) (l : List S30) (hc : ∀ x ∈ l, chk x = 0) (hin : ∀ x ∈ l, i64S x) (hlen : l.length ≤ (linesOf s).length) (hL : ∀ i (h : i < l.length), (linesOf s)[i]'(by omega) = txt l[i]) :
    ∀ i, i ≤ l.length → St s qL eL (prs ((linesOf s).take i)) = (l.take i, -1) := by
  intro i
  induction i with
  | zero => intro _; rfl
  | succ i ih =>
    intro hi
    have hx := List.getElem_mem (l := l) (n := i) (by omega)
    obtain ⟨h1, h2⟩ := txt_pq (hc _ hx) (hin _ hx)
    rw [prs_take' _ i (by omega), St_snoc, ih (by omega)]
    unfold stepR
    rw [if_neg (show ¬ (0 : Int) ≤ -1 by decide), cut_at s i (by omega), hL i (by omega), if_pos h2, h1, List.take_succ_eq_append_getElem (by omega)]
theorem st_stays' (s : ByteArray) (q : ByteArray → S30) (er : ByteArray → Int) (L : List ByteArray) (o : List S30) (b : Int) (hb : 0 ≤ b) : ∀ d i, i + d = L.length → St s q er (prs (L.take i)) = (o, b) → St s q er (prs L) = (o, b) := by
  intro d
  induction d with
  | zero => intro i hi h; rwa [List.take_of_length_le (by omega)] at h
  | succ d ih =>
    intro i hi h
    refine ih (i + 1) (by omega) ?_
    rw [prs_take' L i (by omega), St_snoc, h]
    unfold stepR
    exact if_pos hb
theorem read_back (l : List S30) (hl : l.length ≤ 1000) (hc : ∀ x ∈ l, chk x = 0) (hin : ∀ x ∈ l, i64S x) (s : ByteArray) (hs : bts s = T l) : readOf s qL eL = (l, 0, 0) := by
  have hm : (linesOf s).map bts = l.map (fun x => bts (txt x)) := by
    rw [lines_lns, hs]
    have h := T_lns l hc []
    rw [List.append_nil] at h
    rw [h]
    simp [lns]
  have hlen : (linesOf s).length = l.length := by have := congrArg List.length hm; simpa using this
  have hst := st_good s l hc hin (by omega) (fun i h => by
    apply bts_inj'
    have := List.getElem_of_eq hm (i := i) (by rw [List.length_map]; omega)
    simpa using this) l.length (Nat.le_refl _)
  rw [← hlen, List.take_of_length_le (Nat.le_refl _), hlen, List.take_of_length_le (Nat.le_refl _)] at hst
  unfold readOf
  rw [if_neg (by omega), hst, if_neg (show ¬ (0 : Int) ≤ -1 by decide)]
theorem read_more (l : List S30) (hl : l.length ≤ 1000) (hc : ∀ x ∈ l, chk x = 0) (hin : ∀ x ∈ l, i64S x) (s : ByteArray) (m : List Int) (hm : m.length ≤ 1000) (hs : bts s = T l ++ 63 :: m) : readOf s qL eL = ([], (l.length : Int), 32) := by
  have hT := T_len l hin
  have hsz : s.size ≤ 130000 := by
    have := congrArg List.length hs
    rw [Num.bts_length, List.length_append, List.length_cons] at this
    omega
  obtain ⟨t, r, hr⟩ := lns_head m 63 []
  have hmm : (linesOf s).map bts = l.map (fun x => bts (txt x)) ++ (63 :: t) :: r := by
    rw [lines_lns, hs, T_lns l hc]
    congr 1
  have hrl : r.length ≤ 1002 := by
    have h1 := lines_lns (strOfNums (bts s |>.drop (T l).length))
    have hb : bts (strOfNums ((bts s).drop (T l).length)) = 63 :: m := by
      rw [Num.bts_str _ (fun x hx => bts_byteB s x (List.mem_of_mem_drop hx)), hs, List.drop_left]
    rw [hb] at h1
    have h2 : lns [] (63 :: m) = (63 :: t) :: r := by rw [← hr]; rfl
    rw [h2] at h1
    have h3 := congrArg List.length h1
    rw [List.length_map, List.length_cons] at h3
    have h4 := (scan_le (strOfNums ((bts s).drop (T l).length)) ((strOfNums ((bts s).drop (T l).length)).size + 1)).2
    have h5 : (strOfNums ((bts s).drop (T l).length)).size = m.length + 1 := by rw [← Num.bts_length, hb, List.length_cons]
    rw [h5] at h4
    unfold linesOf at h3
    rw [h5] at h3
    omega
  have hlen : (linesOf s).length = l.length + 1 + r.length := by
    have := congrArg List.length hmm
    rw [List.length_map, List.length_append, List.length_map, List.length_cons] at this
    omega
  have hst := st_good s l hc hin (by omega) (fun i h => by
    apply bts_inj'
    have := List.getElem_of_eq hmm (i := i) (by rw [List.length_map]; omega)
    rw [List.getElem_append_left (by rw [List.length_map]; exact h)] at this
    simpa using this) l.length (Nat.le_refl _)
  rw [List.take_of_length_le (l := l) (Nat.le_refl _)] at hst
  have hbad : eL ((linesOf s)[l.length]'(by omega)) = 32 := by
    have h63 : bts ((linesOf s)[l.length]'(by omega)) = 63 :: t := by
      have := List.getElem_of_eq hmm (i := l.length) (by rw [List.length_map]; omega)
      rw [List.getElem_append_right (by simp)] at this
      simpa using this
    have hsz2 : ((linesOf s)[l.length]'(by omega)).size ≤ s.size := by rw [← cut_at s _ (by omega)]; exact Ln.cut_size _ _
    exact bad_pq _ (by omega) t h63
  have hst2 : St s qL eL (prs ((linesOf s).take (l.length + 1))) = (l, (l.length : Int)) := by
    rw [prs_take' _ _ (by omega), St_snoc, hst]
    unfold stepR
    rw [if_neg (show ¬ (0 : Int) ≤ -1 by decide), cut_at s _ (by omega), if_neg (by rw [hbad]; decide)]
  have hfin := st_stays' s qL eL (linesOf s) l (l.length : Int) (by omega) r.length (l.length + 1) (by omega) hst2
  unfold readOf
  rw [if_neg (by omega), hfin, if_pos (by simp)]
theorem back_yes (K : Nat) (l : List S30) (s : ByteArray) : kindlinglaw03_IsaListBack.j0 (K + 1) l s true = some true := by
  rw [kindlinglaw03_IsaListBack.j0, if_pos rfl, known_f]
  rfl
theorem back_no (K : Nat) (l : List S30) (s : ByteArray) (hin : ∀ x ∈ l, i64S x) (hl : l.length ≤ 1000) (hs : s.size ≤ 1000) (hK : 100000 ≤ K) : kindlinglaw03_IsaListBack.j0 (K + 1 + 1) l s false = some true := by
  have hlo : listOf l = lst [] l := by unfold listOf; rw [if_neg (by omega)]
  rw [kindlinglaw03_IsaListBack.j0, if_neg (by decide), isa_list_f l (by omega) hin _ (by omega), Option.bind_some, hlo]
  by_cases he : (lst [] l).2 = 0
  · obtain ⟨h1, hc⟩ := lst_ok l [] he
    rw [List.nil_append] at h1
    have hb : bts (strOfNums (T l)) = T l := Num.bts_str _ (T_byte l)
    have hsz : (strOfNums (T l)).size ≤ 125000 := by rw [← Num.bts_length, hb]; have := T_len l hin; omega
    have hr1 : isa_Read.f (strOfNums (T l)) = some (l, 0, 0) := by
      rw [← read_back l hl hc hin _ hb]
      exact if_pos (by omega)
    have hsz2 : (strOfNums (T l) ++ (⟨#[63]⟩ : ByteArray)).size = (strOfNums (T l)).size + 1 := ByteArray.size_append
    have hsz3 : (strOfNums (T l) ++ (⟨#[63]⟩ : ByteArray) ++ s).size = (strOfNums (T l)).size + 1 + s.size := by rw [ByteArray.size_append, hsz2]
    have hb2 : bts (strOfNums (T l) ++ (⟨#[63]⟩ : ByteArray) ++ s) = T l ++ 63 :: bts s := by
      rw [bts_append, bts_append, hb, List.append_assoc]
      rfl
    have hr2 : isa_Read.f (strOfNums (T l) ++ (⟨#[63]⟩ : ByteArray) ++ s) = some ([], (l.length : Int), 32) := by
      rw [← read_more l hl hc hin _ (bts s) (by rw [Num.bts_length]; exact hs) hb2]
      exact if_pos (by omega)
    rw [if_pos he, h1, hr1, Option.bind_some, if_pos rfl, if_pos rfl, same_f l (by omega) _ (by omega), Option.bind_some, kindlinglaw03_IsaListBack.j1, if_neg (by decide), if_pos (by omega), if_pos (by rw [hsz2]; omega), hr2, Option.bind_some, if_pos rfl, if_pos rfl, if_pos (by simp), known_f]
    rfl
  · rw [if_neg he, lst_err l [] he, if_pos nil_toList, known_f]
    rfl
theorem IsaListBack (l : List S30) (s : ByteArray) (hin : ∀ x ∈ l, i64S x) : ∃ k, kindlinglaw03_IsaListBack.f k l s = some true := by
  obtain ⟨K, hK⟩ : ∃ K, 100000 ≤ K := ⟨_, Nat.le_refl _⟩
  refine ⟨K + 1 + 1, ?_⟩
  unfold kindlinglaw03_IsaListBack.f
  by_cases hl : (l.length : Int) > 1000
  · rw [if_pos hl]; exact back_yes _ l s
  · rw [if_neg hl]
    by_cases hs : (s.size : Int) > 1000
    · rw [decide_eq_true hs]; exact back_yes _ l s
    · rw [decide_eq_false hs]
      exact back_no K l s hin (by omega) (by omega) hK
theorem in_of {l : List S30} (h : ∀ x ∈ l, OpenS.wf64 x) : ∀ x ∈ l, i64S x := fun x hx =>
  ⟨i64_of (h x hx).1, i64_of (h x hx).2.1, i64_of (h x hx).2.2.1, i64_of (h x hx).2.2.2.1, i64_of (h x hx).2.2.2.2⟩
theorem back_walk (A0 : Option Addr) (c0 : Nat) (l0 : List S30) (a1 : ByteArray) (w : World) (hc0 : l0.length ≤ c0) (hr0 : Kd.C k30 w A0 l0.length l0) (hin : ∀ x ∈ l0, OpenS.wf64 x) (_ : a1.size ≤ 140737488351232) :
    Calls Try.prog 13 #[.slice A0 l0.length c0, .string a1] w fun e w' => e = .returned (.bool true) ∧ Below w.heap.size w w' := by
  obtain ⟨k, hk⟩ := IsaListBack l0 a1 (in_of hin)
  exact Tx.kindlinglaw03_IsaListBack.calls k A0 c0 l0 a1 true w hr0 hc0 hk
end Go.Proofs.Ytebjdjdlpmplpaa.Pure
