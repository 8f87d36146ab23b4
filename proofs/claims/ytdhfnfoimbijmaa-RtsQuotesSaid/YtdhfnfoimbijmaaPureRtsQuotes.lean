/- RtsQuotes at every two texts, as a walk: the law answers true, and of what was there nothing has turned. -/
import Derived.Test.YtdhfnfoimbijmaaLq
import Derived.Test.YtdhfnfoimbijmaaQuF
namespace Go.Proofs.Ytdhfnfoimbijmaa.Fq
open Go.RowKit Go.Proofs.Ytdhfnfoimbijmaa.Pa Go.Proofs.YtdhfnfoimbijmaaW.PrintWords Go.Proofs.YtdhfnfoimbijmaaW.PrintLast
open Num (bts)
/-- A hexadecimal digit's value. -/
def uh (h : Int) : Int := if h < 58 then h - 48 else h - 55
theorem uh_hx' : ∀ d : Fin 16, uh (hx (d.val : Int)) = (d.val : Int) ∧ 48 ≤ hx (d.val : Int) ∧ hx (d.val : Int) ≤ 70 := by decide
theorem uh_hx {d : Int} (h : 0 ≤ d ∧ d < 16) : uh (hx d) = d ∧ 48 ≤ hx d ∧ hx d ≤ 70 := by
  have h1 := uh_hx' ⟨d.toNat, by omega⟩
  have e : ((d.toNat : Nat) : Int) = d := by omega
  simp only [e] at h1
  exact h1
def un2 : List Int → Option (Int × List Int)
  | h :: l :: r => some (uh h * 16 + uh l, r)
  | _ => none
/-- A quoted byte, read again. -/
def un : List Int → Option (Int × List Int)
  | [] => none
  | [c] => some (c, [])
  | c :: d :: r =>
    if c = 92 then
      (if d = 34 ∨ d = 92 then some (d, r) else if d = 110 then some (10, r) else if d = 116 then some (9, r) else
        un2 r)
    else some (c, d :: r)
theorem un_plain (c : Int) (x : List Int) (h : c ≠ 92) : un (c :: x) = some (c, x) := by
  cases x with
  | nil => rfl
  | cons d r => rw [un, if_neg h]
theorem un_qb (c : Int) (hc : 0 ≤ c ∧ c ≤ 255) (x : List Int) : un (qb c ++ x) = some (c, x) := by
  unfold qb
  by_cases h1 : c = 34 ∨ c = 92
  · rw [if_pos h1]
    show un (92 :: c :: x) = _
    rw [un, if_pos rfl, if_pos h1]
  · rw [if_neg h1]
    by_cases h2 : c = 10
    · rw [if_pos h2, h2]
      show un (92 :: 110 :: x) = _
      rw [un, if_pos rfl, if_neg (by decide), if_pos rfl]
    · rw [if_neg h2]
      by_cases h3 : c = 9
      · rw [if_pos h3, h3]
        show un (92 :: 116 :: x) = _
        rw [un, if_pos rfl, if_neg (by decide), if_neg (by decide), if_pos rfl]
      · rw [if_neg h3]
        by_cases h4 : c < 32 ∨ c > 126
        · rw [if_pos h4]
          show un (92 :: 120 :: hx (c / 16) :: hx (c % 16) :: x) = _
          rw [un, if_pos rfl, if_neg (by decide), if_neg (by decide), if_neg (by decide), un2]
          have e1 := (uh_hx (d := c / 16) (by omega)).1
          have e2 := (uh_hx (d := c % 16) (by omega)).1
          simp only [e1, e2]
          congr 2
          omega
        · rw [if_neg h4]
          exact un_plain c x (fun h => h1 (.inr h))
theorem flat_inj : ∀ (a b : List Int), (∀ c ∈ a, 0 ≤ c ∧ c ≤ 255) → (∀ c ∈ b, 0 ≤ c ∧ c ≤ 255) → a.flatMap qb = b.flatMap qb → a = b
  | [], [], _, _, _ => rfl
  | [], d :: b, _, _, h => by
    have hl := congrArg List.length h
    rw [List.flatMap_nil, List.flatMap_cons, List.length_append] at hl
    have := (qb_len d).1
    rw [List.length_nil] at hl
    omega
  | c :: a, [], _, _, h => by
    have hl := congrArg List.length h
    rw [List.flatMap_nil, List.flatMap_cons, List.length_append] at hl
    have := (qb_len c).1
    rw [List.length_nil] at hl
    omega
  | c :: a, d :: b, ha, hb, h => by
    rw [List.flatMap_cons, List.flatMap_cons] at h
    have e := congrArg un h
    rw [un_qb c (ha c (by simp)), un_qb d (hb d (by simp))] at e
    obtain ⟨rfl, e2⟩ := Prod.mk.inj (Option.some.inj e)
    rw [flat_inj a b (fun x hx => ha x (by simp [hx])) (fun x hx => hb x (by simp [hx])) e2]
theorem bts_255 (s : ByteArray) : ∀ c ∈ bts s, 0 ≤ c ∧ c ≤ 255 := fun c hc => by have := Num.bts_byte s c hc; omega
theorem qb_seen (c : Int) (hc : 0 ≤ c ∧ c ≤ 255) : ∀ x ∈ qb c, 32 ≤ x ∧ x ≤ 126 := by
  unfold qb
  have g1 := uh_hx (d := c / 16) (by omega)
  have g2 := uh_hx (d := c % 16) (by omega)
  intro x hx'
  split at hx'
  · simp at hx'; omega
  split at hx'
  · simp at hx'; omega
  split at hx'
  · simp at hx'; omega
  split at hx'
  · simp at hx'
    rcases hx' with rfl | rfl | rfl | rfl <;> omega
  · simp at hx'; omega
theorem quoteL_seen (s : ByteArray) : ∀ x ∈ quoteL s, 32 ≤ x ∧ x ≤ 126 := by
  intro x hx'
  unfold quoteL at hx'
  simp only [List.cons_append, List.mem_cons, List.mem_append, List.mem_flatMap, List.not_mem_nil, or_false] at hx'
  rcases hx' with rfl | ⟨c, hc, hx'⟩ | rfl
  · omega
  · exact qb_seen c (bts_255 s c hc) x hx'
  · omega
theorem flat_len (l : List Int) : l.length ≤ (l.flatMap qb).length ∧ (l.flatMap qb).length ≤ 4 * l.length := by
  induction l with
  | nil => simp
  | cons c l ih =>
    rw [List.flatMap_cons, List.length_append, List.length_cons]
    have := qb_len c
    omega
theorem quote_bts (s : ByteArray) : bts (quoteOf s) = quoteL s := Fa.bts_str _ (fun x hx' => by have := quoteL_seen s x hx'; omega)
theorem quote_size (s : ByteArray) : s.size + 2 ≤ (quoteOf s).size ∧ (quoteOf s).size ≤ 4 * s.size + 2 := by
  rw [← Num.bts_length (quoteOf s), quote_bts]
  unfold quoteL
  have h := flat_len (bts s)
  rw [Num.bts_length] at h
  rw [List.length_append, List.length_cons, List.length_singleton]
  omega
theorem quote_inj {s t : ByteArray} (h : quoteOf s = quoteOf t) : s = t := by
  have e := congrArg bts h
  rw [quote_bts, quote_bts] at e
  unfold quoteL at e
  have e2 := List.append_cancel_right e
  exact Fa.bts_inj (flat_inj _ _ (bts_255 s) (bts_255 t) (List.cons.inj e2).2)
theorem bt_quote (s : ByteArray) (i : Nat) (h : i < (quoteOf s).size) : 32 ≤ bt (quoteOf s) (i : Int) ∧ bt (quoteOf s) (i : Int) ≤ 126 := by
  have h1 := bt_bts' (quoteOf s) i h
  have hm : bt (quoteOf s) (i : Int) ∈ bts (quoteOf s) := by
    have h2 : bt (quoteOf s) (i : Int) ∈ (bts (quoteOf s)).drop i := by rw [h1]; simp
    exact List.mem_of_mem_drop h2
  rw [quote_bts] at hm
  exact quoteL_seen s _ hm
theorem seen_from (s : ByteArray) (hs : s.size ≤ 5000) : ∀ d i, i + d = (quoteOf s).size → ∀ e, kindlinglaw05_RtsQuotes.l0 (e + d + 1) s (quoteOf s) (i : Int) = some true := by
  have hq := quote_size s
  intro d
  induction d with
  | zero =>
    intro i hi e
    have hw : wrap64 ((s.size : Int) + 2) = (s.size : Int) + 2 := by unfold wrap64; omega
    rw [kindlinglaw05_RtsQuotes.l0, if_neg (by omega), hw, if_pos (by omega)]
    rfl
  | succ d ih =>
    intro i hi e
    have hw : wrap64 ((i : Int) + 1) = ((i + 1 : Nat) : Int) := by unfold wrap64; omega
    have hb := bt_quote s i (by omega)
    rw [kindlinglaw05_RtsQuotes.l0, if_pos (by omega), if_pos (by omega), if_neg (by omega), if_neg (by omega), hw]
    exact ih (i + 1) (by omega) e
theorem quotes_yes (K : Nat) (s t : ByteArray) : kindlinglaw05_RtsQuotes.j0 (K + 1) s t true = some true := by
  rw [kindlinglaw05_RtsQuotes.j0, if_pos rfl]
  rfl
theorem quotes_no (K : Nat) (s t : ByteArray) (hs : s.size ≤ 5000) (ht : t.size ≤ 5000) (hK : 30000 ≤ K) : kindlinglaw05_RtsQuotes.j0 (K + 1 + 1) s t false = some true := by
  have hq := quote_size s
  rw [kindlinglaw05_RtsQuotes.j0, if_neg (by decide), quote_f s hs _ (by omega), Option.bind_some, rquote_f s hs _ (by omega), Option.bind_some, if_pos rfl, quote_f t ht _ (by omega), Option.bind_some, kindlinglaw05_RtsQuotes.j1]
  have hne : ((quoteOf s).toList == (quoteOf t).toList) = (s.toList == t.toList) := by
    rw [Bool.eq_iff_iff, beq_iff_eq, beq_iff_eq]
    rw [ByteArray.toList_eq, ByteArray.toList_eq, ByteArray.toList_eq, ByteArray.toList_eq]
    constructor
    · intro h
      rw [quote_inj (ByteArray.ext (Array.toList_inj.1 h))]
    · intro h
      rw [ByteArray.ext (Array.toList_inj.1 h)]
  rw [hne, if_neg (by simp)]
  have h := seen_from s hs (quoteOf s).size 0 (by omega) (K - (quoteOf s).size - 1)
  rw [show K - (quoteOf s).size - 1 + (quoteOf s).size + 1 = K from by omega] at h
  exact h
theorem RtsQuotes (s t : ByteArray) : ∃ k, kindlinglaw05_RtsQuotes.f k s t = some true := by
  obtain ⟨K, hK⟩ : ∃ K, 30000 ≤ K := ⟨_, Nat.le_refl _⟩
  refine ⟨K + 1 + 1, ?_⟩
  unfold kindlinglaw05_RtsQuotes.f
  by_cases hs : (s.size : Int) > 5000
  · rw [if_pos hs]; exact quotes_yes _ s t
  · rw [if_neg hs]
    by_cases ht : (t.size : Int) > 5000
    · rw [decide_eq_true ht]; exact quotes_yes _ s t
    · rw [decide_eq_false ht]; exact quotes_no K s t (by omega) (by omega) hK
theorem quotes_walk (a0 a1 : ByteArray) (w : World) (_ : a0.size ≤ 140737488351232) (_ : a1.size ≤ 140737488351232) :
    Calls Try.prog 11 #[.string a0, .string a1] w fun e w' => e = .returned (.bool true) ∧ Below w.heap.size w w' := by
  obtain ⟨k, hk⟩ := RtsQuotes a0 a1
  exact kindlinglaw05_RtsQuotes.calls k a0 a1 true w hk
end Go.Proofs.Ytdhfnfoimbijmaa.Fq
