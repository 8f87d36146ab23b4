/- An argument that is a slice of texts, opened to the list that it holds (after the guide's page on slices). -/
import Derived.Deep.Slices
import Derived.ChangeSame
import Derived.Test.YtdhfnfoimbijmaaBack5
namespace Go.Proofs.Ytdhfnfoimbijmaa.OpenStr
open Go.ChangeShapes Go.WideShapes Go.Deep
open Go.RowKit Go.Proofs.YtdhfnfoimbijmaaW.PrintWords Go.Proofs.YtdhfnfoimbijmaaW.PrintLast
variable {H : Type} {enc : TypeId × Value → H} {w : World} {base : Nat} {spare : Nat → Bool} {held : Bool}
theorem rowStr {A : Option Addr} {n c : Nat} {d : DataW H} {p : List MemPlace} (h : DataW.Trod enc Try.prog w base spare held 63 (.slice A n c) d p) :
    ∃ l : List ByteArray, n = l.length ∧ l.length ≤ c ∧ Kd.C Kd.string w A l.length l ∧ l.length ≤ 9223372036854775807 := by
  obtain ⟨fuel, hf⟩ := h
  rcases open_slice1 Try.underlying63 (by kernel_rfl) hf with ⟨hcs, _⟩ | ⟨a, len, cap, m, k, V, D, Pl, hcs, _, hl, hm, hmm, _, hi⟩
  · simp [Value.cells] at hcs
    obtain ⟨rfl, rfl, rfl⟩ := hcs
    exact ⟨[], rfl, Nat.le_refl _, ⟨rfl, Nat.zero_le _, fun h => absurd h (by decide)⟩, Nat.zero_le _⟩
  · simp [Value.cells] at hcs
    obtain ⟨rfl, rfl, rfl⟩ := hcs
    have hmm2 : n ≤ m := by
      rw [hmm]; split
      · exact hl
      · exact Nat.le_refl _
    have hx : ∀ i, i < n → ∃ x : ByteArray, w.cell? (a.add i) = some (.string x) := by
      intro i hlt
      obtain ⟨g, t⟩ := hi i (by omega)
      obtain ⟨s, e, -, -⟩ := DataW.trod_string Try.underlying9 t
      rw [(List.cons.inj e).1] at g
      exact ⟨s, g⟩
    have hX : ∃ X : Nat → ByteArray, ∀ i, i < n → w.cell? (a.add i) = some (.string (X i)) :=
      ⟨fun i => if h : i < n then Classical.choose (hx i h) else ByteArray.empty, fun i h => by simp only [dif_pos h]; exact Classical.choose_spec (hx i h)⟩
    obtain ⟨X, hX⟩ := hX
    have hll : ((List.range n).map X).length = n := by simp
    have hb : n ≤ 9223372036854775807 := Nat.le_trans hl (Nat.le_trans hm (by decide))
    refine ⟨(List.range n).map X, hll.symm, by rw [hll]; exact hl, ⟨rfl, by rw [hll]; exact hb, fun _ => ⟨a, rfl, fun j p hj => ?_⟩⟩, by rw [hll]; exact hb⟩
    have hjl : j < n := by have := (List.getElem?_eq_some_iff.1 hj).1; simpa using this
    obtain rfl : p = X j := by simpa [hjl] using hj.symm
    refine ⟨[.string (X j)], rfl, rfl, fun i u hu => ?_⟩
    rcases i with _ | i
    · cases hu
      show w.cell? (a.add (j * 1 + 0)) = _
      rw [Nat.mul_one, Nat.add_zero]
      exact hX j hjl
    · simp at hu
theorem back_walk (a : Option Addr) (c : Nat) (l : List ByteArray) (w : World) (h0 : l.length ≤ c) (h1 : Kd.C Kd.string w a l.length l) (h2 : l.length ≤ 9223372036854775807) :
    Calls Try.prog 6 #[.slice a l.length c] w fun e w' => e = .returned (.bool true) ∧ Below w.heap.size w w' := Mem.back_in w a c l h1 h0 h2
end Go.Proofs.Ytdhfnfoimbijmaa.OpenStr
