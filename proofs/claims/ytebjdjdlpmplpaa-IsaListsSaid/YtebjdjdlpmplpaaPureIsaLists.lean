/- IsaLists at every list of instructions and every text, as a walk: the law answers true, and of what was there nothing has turned. -/
import Derived.Test.YtebjdjdlpmplpaaLsG
import Derived.Test.YtebjdjdlpmplpaaLn5
import Derived.Test.YtebjdjdlpmplpaaOpenS
namespace Go.Proofs.Ytebjdjdlpmplpaa.Pure
open Go.RowKit Go.Proofs.Ytebjdjdlpmplpaa.Tx Go.Proofs.Ytebjdjdlpmplpaa.FaT Go.Proofs.Ytebjdjdlpmplpaa.Isa Go.Proofs.YtebjdjdlpmplpaaW.PrintWords Go.Proofs.YtebjdjdlpmplpaaW.PrintLast
theorem readOf_len (s : ByteArray) : (Ln.readOf s qL eL).1.length ≤ 4096 := by
  unfold Ln.readOf
  split
  · simp
  · split
    · simp
    · rename_i h _
      have := Ln.St_len s qL eL (Ln.prs (Ln.linesOf s))
      rw [Ln.prs_length] at this
      simp only
      omega
theorem lists_yes (K : Nat) (l : List S30) (s : ByteArray) : kindlinglaw03_IsaLists.j0 (K + 1) l s true = some true := by
  rw [kindlinglaw03_IsaLists.j0]
  rw [if_pos rfl, known_f]
  rfl
theorem lists_no (K : Nat) (l : List S30) (s : ByteArray) (hin : ∀ x ∈ l, i64S x) (hl : l.length ≤ 5000) (hs : s.size ≤ 60000) (hK : s.size + 100000 ≤ K) : kindlinglaw03_IsaLists.j0 (K + 1) l s false = some true := by
  rw [kindlinglaw03_IsaLists.j0]
  have hr := readOf_len s
  have h3 : isa_Read.f s = some (Ln.readOf s qL eL) := if_pos (by omega)
  rw [if_neg (by decide), isa_list_f l (by omega) hin _ (by omega), Option.bind_some, ref_list_f l (by omega) hin _ (by omega), Option.bind_some, h3, Option.bind_some, ref_read_f s (by omega) _ (by omega), Option.bind_some,
    if_pos rfl, if_pos rfl, same_f _ (by omega) _ (by omega), Option.bind_some, if_pos rfl, if_pos rfl, if_pos rfl, known_f]
  rfl
theorem IsaLists (l : List S30) (s : ByteArray) (hin : ∀ x ∈ l, i64S x) : ∃ k, kindlinglaw03_IsaLists.f k l s = some true := by
  obtain ⟨K, hK⟩ : ∃ K, s.size + 100000 ≤ K := ⟨_, Nat.le_refl _⟩
  refine ⟨K + 1, ?_⟩
  unfold kindlinglaw03_IsaLists.f
  by_cases hl : (l.length : Int) > 5000
  · rw [if_pos hl]; exact lists_yes K l s
  · rw [if_neg hl]
    by_cases hs : (s.size : Int) > 60000
    · rw [decide_eq_true hs]; exact lists_yes K l s
    · rw [decide_eq_false hs]
      exact lists_no K l s hin (by omega) (by omega) hK
theorem in_of {l : List S30} (h : ∀ x ∈ l, OpenS.wf64 x) : ∀ x ∈ l, i64S x := fun x hx =>
  ⟨i64_of (h x hx).1, i64_of (h x hx).2.1, i64_of (h x hx).2.2.1, i64_of (h x hx).2.2.2.1, i64_of (h x hx).2.2.2.2⟩
theorem lists_walk (A0 : Option Addr) (c0 : Nat) (l0 : List S30) (a1 : ByteArray) (w : World) (hc0 : l0.length ≤ c0) (hr0 : Kd.C k30 w A0 l0.length l0) (hin : ∀ x ∈ l0, OpenS.wf64 x) (_ : a1.size ≤ 140737488351232) :
    Calls Try.prog 12 #[.slice A0 l0.length c0, .string a1] w fun e w' => e = .returned (.bool true) ∧ Below w.heap.size w w' := by
  obtain ⟨k, hk⟩ := IsaLists l0 a1 (in_of hin)
  exact Tx.kindlinglaw03_IsaLists.calls k A0 c0 l0 a1 true w hr0 hc0 hk
end Go.Proofs.Ytebjdjdlpmplpaa.Pure
