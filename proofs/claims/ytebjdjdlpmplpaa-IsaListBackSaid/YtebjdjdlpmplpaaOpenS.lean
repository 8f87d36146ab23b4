/- An argument that is a slice of structs of five whole numbers, opened to the list that it holds (after the guide's page on structs). -/
import Derived.Deep.Slices
import Derived.Deep.Fields
import Derived.ChangeSame
import Derived.Test.YtebjdjdlpmplpaaTx0
namespace Go.Proofs.Ytebjdjdlpmplpaa.OpenS
open Go.ChangeShapes Go.WideShapes Go.Deep
section
variable {H : Type} {enc : TypeId × Value → H} {P : Program} {w : World} {base : Nat} {spare : Nat → Bool} {held : Bool}
theorem open_slice_fields {t e : TypeId} {fs : Array Field} {fuel : Nat} {cs : List Value} {x : DataW H × List MemPlace} (ht : P.underlying t = some (.slice e)) (he : P.underlying e = some (.struct fs))
    (hone : oneCellFields P fs = true) (hC : P.cellsOf e = fs.size) (h : DataW.trod enc P w base spare held fuel t cs = some x) :
    (cs = [.slice none 0 0] ∧ x = (.nil, [])) ∨
    ∃ (a : Addr) (len cap m : Nat) (D : Nat → DataW H) (Pl : Nat → List MemPlace), cs = [.slice (some a) len cap] ∧ base ≤ a.block ∧ len ≤ cap ∧ cap ≤ maxLen ∧ m = (if spare a.block then cap else len) ∧
      x = (.slice ((List.range len).map D) ((List.range (m - len)).map fun j => D (len + j)), MemPlace.row a (m * fs.size) ++ (List.range m).flatMap Pl) ∧
      ∀ i, i < m → ∃ (ys : List (DataW H × List MemPlace)) (n : Nat), D i = .agg (ys.map (·.1)) ∧ Pl i = ys.flatMap (·.2) ∧ ys.length = fs.size ∧
        ∀ (j : Nat) (f : Field), fs[j]? = some f → ∃ (v : Value) (y : DataW H × List MemPlace), w.cell? (a.add (i * fs.size + j)) = some v ∧ ys[j]? = some y ∧ DataW.trod enc P w base spare held n f.type [v] = some y := by
  rcases open_slice ht h with h0 | ⟨a, len, cap, m, n, D, Pl, hcs, hb, hl, hm, hmm, hx, hi⟩
  · exact .inl h0
  · refine .inr ⟨a, len, cap, m, D, Pl, hcs, hb, hl, hm, hmm, by rw [hC] at hx; exact hx, fun i him => ?_⟩
    obtain ⟨cs', hc, ht'⟩ := hi i him
    rw [hC] at hc
    obtain ⟨ys, n', hn', hy, hlen, hyl, hf⟩ := DataW.trod_struct he ht'
    obtain ⟨_, hcl, hat⟩ := World.cells?_some hc
    simp only [Prod.mk.injEq] at hy
    refine ⟨ys, n', hy.1, hy.2, hyl, fun j f hj => ?_⟩
    obtain ⟨ho, hk⟩ := hone_of hone j f hj
    have hjl : j < fs.size := (Array.getElem?_eq_some_iff.1 hj).1
    have hcell := hat j hjl
    have hv : cs'[j]? = some (cs'[j]'(by omega)) := List.getElem?_eq_getElem (by omega)
    have h1 := hf j f hj
    rw [ho, hk] at h1
    have hone' : (cs'.drop j).take 1 = [cs'[j]'(by omega)] := by
      rw [List.drop_eq_getElem_cons (by omega)]
      rfl
    rw [hone'] at h1
    have hys : ys[j]? = some (ys[j]'(by omega)) := List.getElem?_eq_getElem (by omega)
    refine ⟨_, _, ?_, hys, h1.trans hys⟩
    rw [← Go.Deep.add_add, hcell, hv]
end
open Go.RowKit Go.Proofs.Ytebjdjdlpmplpaa.Tx Go.Proofs.YtebjdjdlpmplpaaW.PrintWords Go.Proofs.YtebjdjdlpmplpaaW.PrintLast
def wf64 (x : S30) : Prop := (Lit.int .i64 x.f0).wf = true ∧ (Lit.int .i64 x.f1).wf = true ∧ (Lit.int .i64 x.f2).wf = true ∧ (Lit.int .i64 x.f3).wf = true ∧ (Lit.int .i64 x.f4).wf = true
variable {H : Type} {enc : TypeId × Value → H} {w : World} {base : Nat} {spare : Nat → Bool} {held : Bool}
theorem row30 {A : Option Addr} {n c : Nat} {d : DataW H} {p : List MemPlace} (h : DataW.Trod enc Try.prog w base spare held 56 (.slice A n c) d p) :
    ∃ l : List S30, n = l.length ∧ l.length ≤ c ∧ Kd.C k30 w A l.length l ∧ ∀ x ∈ l, wf64 x := by
  obtain ⟨fuel, hf⟩ := h
  rcases open_slice_fields Try.underlying56 Try.underlying30 (by kernel_rfl) (by kernel_rfl) hf with ⟨hcs, _⟩ | ⟨a, len, cap, m, D, Pl, hcs, _, hl, hm, hmm, _, hi⟩
  · simp [Value.cells] at hcs
    obtain ⟨rfl, rfl, rfl⟩ := hcs
    exact ⟨[], rfl, Nat.le_refl _, ⟨rfl, Nat.zero_le _, fun h => absurd h (by decide)⟩, fun x hx => by cases hx⟩
  · simp [Value.cells] at hcs
    obtain ⟨rfl, rfl, rfl⟩ := hcs
    have hmm2 : n ≤ m := by
      rw [hmm]; split
      · exact hl
      · exact Nat.le_refl _
    have hx : ∀ i, i < n → ∃ x : S30, wf64 x ∧ w.cell? (a.add (i * 5 + 0)) = some (.int .i64 x.f0) ∧ w.cell? (a.add (i * 5 + 1)) = some (.int .i64 x.f1) ∧ w.cell? (a.add (i * 5 + 2)) = some (.int .i64 x.f2) ∧ w.cell? (a.add (i * 5 + 3)) = some (.int .i64 x.f3) ∧ w.cell? (a.add (i * 5 + 4)) = some (.int .i64 x.f4) := by
      intro i hlt
      obtain ⟨ys, k, -, -, -, hf⟩ := hi i (by omega)
      obtain ⟨v0, y0, g0, -, t0⟩ := hf 0 _ rfl
      obtain ⟨v1, y1, g1, -, t1⟩ := hf 1 _ rfl
      obtain ⟨v2, y2, g2, -, t2⟩ := hf 2 _ rfl
      obtain ⟨v3, y3, g3, -, t3⟩ := hf 3 _ rfl
      obtain ⟨v4, y4, g4, -, t4⟩ := hf 4 _ rfl
      obtain ⟨b0, e0, -, w0⟩ := DataW.trod_int Try.underlying3 t0
      obtain ⟨b1, e1, -, w1⟩ := DataW.trod_int Try.underlying3 t1
      obtain ⟨b2, e2, -, w2⟩ := DataW.trod_int Try.underlying3 t2
      obtain ⟨b3, e3, -, w3⟩ := DataW.trod_int Try.underlying3 t3
      obtain ⟨b4, e4, -, w4⟩ := DataW.trod_int Try.underlying3 t4
      obtain rfl := (List.cons.inj e0).1
      obtain rfl := (List.cons.inj e1).1
      obtain rfl := (List.cons.inj e2).1
      obtain rfl := (List.cons.inj e3).1
      obtain rfl := (List.cons.inj e4).1
      exact ⟨⟨b0, b1, b2, b3, b4⟩, ⟨w0, w1, w2, w3, w4⟩, g0, g1, g2, g3, g4⟩
    have hX : ∃ X : Nat → S30, ∀ i, i < n → wf64 (X i) ∧ w.cell? (a.add (i * 5 + 0)) = some (.int .i64 (X i).f0) ∧ w.cell? (a.add (i * 5 + 1)) = some (.int .i64 (X i).f1) ∧ w.cell? (a.add (i * 5 + 2)) = some (.int .i64 (X i).f2) ∧ w.cell? (a.add (i * 5 + 3)) = some (.int .i64 (X i).f3) ∧ w.cell? (a.add (i * 5 + 4)) = some (.int .i64 (X i).f4) :=
      ⟨fun i => if h : i < n then Classical.choose (hx i h) else z30, fun i h => by simp only [dif_pos h]; exact Classical.choose_spec (hx i h)⟩
    obtain ⟨X, hX⟩ := hX
    have hll : ((List.range n).map X).length = n := by simp
    refine ⟨(List.range n).map X, hll.symm, by rw [hll]; exact hl, ⟨rfl, by rw [hll]; exact Nat.le_trans hl (Nat.le_trans hm (by decide)), fun _ => ⟨a, rfl, fun j p hj => ?_⟩⟩, fun x hx => ?_⟩
    · have hjl : j < n := by have := (List.getElem?_eq_some_iff.1 hj).1; simpa using this
      obtain rfl : p = X j := by simpa [hjl] using hj.symm
      obtain ⟨-, g0, g1, g2, g3, g4⟩ := hX j hjl
      refine ⟨_, rfl, k30_mk w (X j), fun i u hu => ?_⟩
      rcases i with _ | _ | _ | _ | _ | i
      · cases hu; exact g0
      · cases hu; exact g1
      · cases hu; exact g2
      · cases hu; exact g3
      · cases hu; exact g4
      · simp at hu
    · obtain ⟨i, hi, rfl⟩ := List.mem_map.1 hx
      exact (hX i (by simpa using hi)).1
end Go.Proofs.Ytebjdjdlpmplpaa.OpenS
