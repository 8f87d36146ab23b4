/- ref.Heap, plain: what it makes of any list can be laid out in a memory; the words of its fields and of roots; a slice of objects as an argument, opened. -/
import Derived.Test.YtjccaojlldkmpaaMd
import Derived.Test.YtjccaojlldkmpaaPa3
import Derived.Deep.Slices
import Derived.Deep.Fields
import Derived.ChangeSame
import Derived.Test.YtjccaojlldkmpaaPa0
namespace Go.Proofs.Ytjccaojlldkmpaa.Open4
open Go.ChangeShapes Go.WideShapes Go.Deep
section
variable {H : Type} {enc : TypeId × Value → H} {P : Program} {w : World} {base : Nat} {spare : Nat → Bool} {held : Bool}
theorem open_slice_fields {t e : TypeId} {fs : Array Field} {fuel : Nat} {cs : List Value} {x : DataW H × List MemPlace} (ht : P.underlying t = some (.slice e)) (he : P.underlying e = some (.struct fs))
    (hone : oneCellFields P fs = true) (hC : P.cellsOf e = fs.size) (h : DataW.trod enc P w base spare held fuel t cs = some x) :
    (cs = [.slice none 0 0] ∧ x = (.nil, [])) ∨
    ∃ (a : Addr) (len cap m : Nat) (D : Nat → DataW H) (Pl : Nat → List MemPlace), cs = [.slice (some a) len cap] ∧ base ≤ a.block ∧ len ≤ cap ∧ cap ≤ maxLen ∧ m = (if spare a.block then cap else len) ∧
      x = (.slice ((List.range len).map D) ((List.range (m - len)).map fun j => D (len + j)), MemPlace.row a (m * fs.size) ++ (List.range m).flatMap Pl) ∧
      ∀ i, i < m → ∃ (ys : List (DataW H × List MemPlace)) (n : Nat), D i = .agg (ys.map (·.1)) ∧ Pl i = ys.flatMap (·.2) ∧ ys.length = fs.size ∧
        ∀ (j : Nat) (f : Field), fs[j]? = some f → ∃ (v : Value) (y : DataW H × List MemPlace), w.cell? (a.add (i * fs.size + j)) = some v ∧ ys[j]? = some y ∧ DataW.trod enc P w base spare held n f.type [v] = some y := by
  rcases open_slice ht h with h0 | ⟨a, len, cap, m, n, D, Pl, hcs, hb, hl, hm, hmm, hx, hi⟩
  · exact .inl h0
  · refine .inr ⟨a, len, cap, m, D, Pl, hcs, hb, hl, hm, hmm, by rw [hC] at hx; exact hx, fun i him => ?_⟩
    obtain ⟨cs', hc, ht'⟩ := hi i him
    rw [hC] at hc
    obtain ⟨ys, n', hn', hy, hlen, hyl, hf⟩ := DataW.trod_struct he ht'
    obtain ⟨_, hcl, hat⟩ := World.cells?_some hc
    simp only [Prod.mk.injEq] at hy
    refine ⟨ys, n', hy.1, hy.2, hyl, fun j f hj => ?_⟩
    obtain ⟨ho, hk⟩ := hone_of hone j f hj
    have hjl : j < fs.size := (Array.getElem?_eq_some_iff.1 hj).1
    have hcell := hat j hjl
    have hv : cs'[j]? = some (cs'[j]'(by omega)) := List.getElem?_eq_getElem (by omega)
    have h1 := hf j f hj
    rw [ho, hk] at h1
    have hone' : (cs'.drop j).take 1 = [cs'[j]'(by omega)] := by
      rw [List.drop_eq_getElem_cons (by omega)]
      rfl
    rw [hone'] at h1
    have hys : ys[j]? = some (ys[j]'(by omega)) := List.getElem?_eq_getElem (by omega)
    refine ⟨_, _, ?_, hys, h1.trans hys⟩
    rw [← Go.Deep.add_add, hcell, hv]
end
open Go.RowKit Go.Proofs.YtjccaojlldkmpaaW.PrintWords Go.Proofs.YtjccaojlldkmpaaW.PrintLast
open Pa (S71 k71 z71 k71_mk)
def i64 (x : Int) : Prop := (Lit.int .i64 x).wf = true
def wf71 (x : S71) : Prop := i64 x.f0 ∧ i64 x.f1 ∧ i64 x.f3 ∧ ∀ y ∈ x.f2, i64 y
variable {H : Type} {enc : TypeId × Value → H} {w : World} {base : Nat} {spare : Nat → Bool} {held : Bool}
theorem rowInts {fuel : Nat} {v : Value} {y : DataW H × List MemPlace} (h : DataW.trod enc Try.prog w base spare held fuel 23 [v] = some y) :
    ∃ A c, ∃ l : List Int, v = .slice A l.length c ∧ l.length ≤ c ∧ Kd.C (Kd.int .i64) w A l.length l ∧ ∀ x ∈ l, i64 x := by
  rcases open_slice1 Try.underlying23 (by kernel_rfl) h with ⟨hcs, _⟩ | ⟨a, len, cap, m, k, V, D, Pl, hcs, _, hl, hm, hmm, _, hi⟩
  · obtain rfl := (List.cons.inj hcs).1
    exact ⟨none, 0, [], rfl, Nat.le_refl _, ⟨rfl, Nat.zero_le _, fun h => absurd h (by decide)⟩, fun x hx => by cases hx⟩
  · obtain rfl := (List.cons.inj hcs).1
    have hmm2 : len ≤ m := by
      rw [hmm]; split
      · exact hl
      · exact Nat.le_refl _
    have hx : ∀ i, i < len → ∃ x : Int, i64 x ∧ w.cell? (a.add i) = some (.int .i64 x) := by
      intro i hlt
      obtain ⟨g, t⟩ := hi i (by omega)
      obtain ⟨s, e, -, hw⟩ := DataW.trod_int Try.underlying3 t
      rw [(List.cons.inj e).1] at g
      exact ⟨s, hw, g⟩
    have hX : ∃ X : Nat → Int, ∀ i, i < len → i64 (X i) ∧ w.cell? (a.add i) = some (.int .i64 (X i)) :=
      ⟨fun i => if h : i < len then Classical.choose (hx i h) else 0, fun i h => by simp only [dif_pos h]; exact Classical.choose_spec (hx i h)⟩
    obtain ⟨X, hX⟩ := hX
    have hll : ((List.range len).map X).length = len := by simp
    have hb : len ≤ 9223372036854775807 := Nat.le_trans hl (Nat.le_trans hm (by decide))
    refine ⟨some a, cap, (List.range len).map X, by rw [hll], by rw [hll]; exact hl, ⟨rfl, by rw [hll]; exact hb, fun _ => ⟨a, rfl, fun j p hj => ?_⟩⟩, fun x hx => ?_⟩
    · have hjl : j < len := by have := (List.getElem?_eq_some_iff.1 hj).1; simpa using this
      obtain rfl : p = X j := by simpa [hjl] using hj.symm
      refine ⟨[.int .i64 (X j)], rfl, rfl, fun i u hu => ?_⟩
      rcases i with _ | i
      · cases hu
        show w.cell? (a.add (j * 1 + 0)) = _
        rw [Nat.mul_one, Nat.add_zero]
        exact (hX j hjl).2
      · simp at hu
    · obtain ⟨i, hi, rfl⟩ := List.mem_map.1 hx
      exact (hX i (by simpa using hi)).1
theorem row71 {A : Option Addr} {n c : Nat} {d : DataW H} {p : List MemPlace} (h : DataW.Trod enc Try.prog w base spare held 22 (.slice A n c) d p) :
    ∃ l : List S71, n = l.length ∧ l.length ≤ c ∧ Kd.C k71 w A l.length l ∧ ∀ x ∈ l, wf71 x := by
  obtain ⟨fuel, hf⟩ := h
  rcases open_slice_fields Try.underlying22 Try.underlying71 (by kernel_rfl) (by kernel_rfl) hf with ⟨hcs, _⟩ | ⟨a, len, cap, m, D, Pl, hcs, _, hl, hm, hmm, _, hi⟩
  · simp [Value.cells] at hcs
    obtain ⟨rfl, rfl, rfl⟩ := hcs
    exact ⟨[], rfl, Nat.le_refl _, ⟨rfl, Nat.zero_le _, fun h => absurd h (by decide)⟩, fun x hx => by cases hx⟩
  · simp [Value.cells] at hcs
    obtain ⟨rfl, rfl, rfl⟩ := hcs
    have hmm2 : n ≤ m := by
      rw [hmm]; split
      · exact hl
      · exact Nat.le_refl _
    have hx : ∀ i, i < n → ∃ x : S71, wf71 x ∧ ∃ A2 c2, x.f2.length ≤ c2 ∧ Kd.C (Kd.int .i64) w A2 x.f2.length x.f2 ∧ w.cell? (a.add (i * 4 + 0)) = some (.int .i64 x.f0) ∧ w.cell? (a.add (i * 4 + 1)) = some (.int .i64 x.f1) ∧ w.cell? (a.add (i * 4 + 2)) = some (.slice A2 x.f2.length c2) ∧ w.cell? (a.add (i * 4 + 3)) = some (.int .i64 x.f3) := by
      intro i hlt
      obtain ⟨ys, k, -, -, -, hf⟩ := hi i (by omega)
      obtain ⟨v0, y0, g0, -, t0⟩ := hf 0 _ rfl
      obtain ⟨v1, y1, g1, -, t1⟩ := hf 1 _ rfl
      obtain ⟨v2, y2, g2, -, t2⟩ := hf 2 _ rfl
      obtain ⟨v3, y3, g3, -, t3⟩ := hf 3 _ rfl
      obtain ⟨b0, e0, -, w0⟩ := DataW.trod_int Try.underlying3 t0
      obtain ⟨b1, e1, -, w1⟩ := DataW.trod_int Try.underlying3 t1
      obtain ⟨A2, c2, l2, rfl, hc2, hC2, hw2⟩ := rowInts t2
      obtain ⟨b3, e3, -, w3⟩ := DataW.trod_int Try.underlying3 t3
      obtain rfl := (List.cons.inj e0).1
      obtain rfl := (List.cons.inj e1).1
      obtain rfl := (List.cons.inj e3).1
      exact ⟨⟨b0, b1, l2, b3⟩, ⟨w0, w1, w3, hw2⟩, A2, c2, hc2, hC2, g0, g1, g2, g3⟩
    have hX : ∃ X : Nat → S71, ∀ i, i < n → wf71 (X i) ∧ ∃ A2 c2, (X i).f2.length ≤ c2 ∧ Kd.C (Kd.int .i64) w A2 (X i).f2.length (X i).f2 ∧ w.cell? (a.add (i * 4 + 0)) = some (.int .i64 (X i).f0) ∧ w.cell? (a.add (i * 4 + 1)) = some (.int .i64 (X i).f1) ∧ w.cell? (a.add (i * 4 + 2)) = some (.slice A2 (X i).f2.length c2) ∧ w.cell? (a.add (i * 4 + 3)) = some (.int .i64 (X i).f3) :=
      ⟨fun i => if h : i < n then Classical.choose (hx i h) else z71, fun i h => by simp only [dif_pos h]; exact Classical.choose_spec (hx i h)⟩
    obtain ⟨X, hX⟩ := hX
    have hll : ((List.range n).map X).length = n := by simp
    refine ⟨(List.range n).map X, hll.symm, by rw [hll]; exact hl, ⟨rfl, by rw [hll]; exact Nat.le_trans hl (Nat.le_trans hm (by decide)), fun _ => ⟨a, rfl, fun j p hj => ?_⟩⟩, fun x hx => ?_⟩
    · have hjl : j < n := by have := (List.getElem?_eq_some_iff.1 hj).1; simpa using this
      obtain rfl : p = X j := by simpa [hjl] using hj.symm
      obtain ⟨-, A2, c2, hc2, hC2, g0, g1, g2, g3⟩ := hX j hjl
      refine ⟨_, rfl, k71_mk w (X j) hc2 hC2, fun i u hu => ?_⟩
      rcases i with _ | _ | _ | _ | i
      · cases hu; exact g0
      · cases hu; exact g1
      · cases hu; exact g2
      · cases hu; exact g3
      · simp at hu
    · obtain ⟨i, hi, rfl⟩ := List.mem_map.1 hx
      exact (hX i (by simpa using hi)).1
end Go.Proofs.Ytjccaojlldkmpaa.Open4

namespace Go.Proofs.Ytjccaojlldkmpaa.Mem
open Go.RowKit Go.Proofs.YtjccaojlldkmpaaW.PrintWords Go.Proofs.YtjccaojlldkmpaaW.PrintLast Go.Proofs.YtjccaojlldkmpaaW.PrintMore
open Hf (rightB hdr headOf partsOf)
open Pa (S71 k71 z71 rd_T71 at_T71)
open Open4 (i64 wf71)
set_option linter.unusedSimpArgs false
set_option linter.unusedVariables false
theorem w64 {n : Int} (h : -9223372036854775808 ≤ n ∧ n ≤ 9223372036854775807) : wrap64 n = n := by unfold wrap64; omega
theorem among_f (a n : Int) (hn : 1 ≤ n) (hn2 : n ≤ 1000000000) : ∃ r : Nat, Pa.kindlingref01_Among.f a n = some (r : Int) ∧ (r : Int) < n := by
  unfold Pa.kindlingref01_Among.f
  have h1 : (Int.tmod a n).natAbs < n.natAbs := by rw [Int.natAbs_tmod]; exact Nat.mod_lt _ (by omega)
  rw [if_neg (by omega), if_neg (by omega)]
  by_cases h : Int.tmod a n < 0
  · rw [if_pos h, w64 (by omega)]
    exact ⟨(Int.tmod a n + n).toNat, by congr 1; omega, by omega⟩
  · rw [if_neg h]
    exact ⟨(Int.tmod a n).toNat, by congr 1; omega, by omega⟩
/-- An object that can be laid out. -/
structure Fine (o : S71) : Prop where
  r : rightB o.f0 o.f2.length o.f1 = true
  n : 1 ≤ o.f2.length ∧ o.f2.length ≤ 12
  w : ∀ y ∈ o.f2, i64 y
theorem heap_j5 (k : Nat) (x0 x4 : List S71) (x5 x6 : Int) (n : Nat) (kd tg bad : Int) (fs : List Int) (hk : 1 ≤ kd ∧ kd ≤ 5) (hn : 1 ≤ n ∧ n ≤ 12) (hf : fs.length = n) (h2 : kd = 2 → n = 1) (h4 : x4.length ≤ 1000) (hw : ∀ y ∈ fs, i64 y) :
    ∃ o, Fine o ∧ o.f2.length = n ∧ Pa.kindlingref04_Heap.j5 (k + 1) x0 x4 x5 x6 (n : Int) kd tg fs bad = Pa.kindlingref04_Heap.l0 k x0 (x4 ++ [o]) (wrap64 (wrap64 (x5 + 1) + (n : Int))) (wrap64 (x6 + 1)) := by
  rw [Pa.kindlingref04_Heap.j5]
  by_cases e4 : kd = 4
  · rw [if_pos e4, if_pos (by omega)]
    refine ⟨⟨kd, 0, fs, bad⟩, ⟨?_, by show 1 ≤ fs.length ∧ fs.length ≤ 12; omega, hw⟩, hf, rfl⟩
    show rightB kd fs.length 0 = true
    unfold rightB
    rw [if_neg (by omega), if_neg (by omega), if_neg (by omega), if_pos e4, decide_eq_true (by omega)]
    rfl
  · rw [if_neg e4]
    by_cases e5 : kd = 5
    · obtain ⟨r, hr, hrn⟩ := among_f tg (wrap64 ((n : Int) + 1)) (by rw [w64 (by omega)]; omega) (by rw [w64 (by omega)]; omega)
      rw [w64 (show -9223372036854775808 ≤ (n : Int) + 1 ∧ (n : Int) + 1 ≤ 9223372036854775807 by omega)] at hrn
      rw [if_pos e5, hr, Option.bind_some, if_pos (by omega)]
      refine ⟨⟨kd, r, fs, bad⟩, ⟨?_, by show 1 ≤ fs.length ∧ fs.length ≤ 12; omega, hw⟩, hf, rfl⟩
      show rightB kd fs.length r = true
      unfold rightB
      rw [if_neg (by omega), if_neg (by omega), if_neg (by omega), if_neg e4, e5]
      rfl
    · rw [if_neg e5, if_pos (by omega)]
      refine ⟨⟨kd, n, fs, bad⟩, ⟨?_, by show 1 ≤ fs.length ∧ fs.length ≤ 12; omega, hw⟩, hf, rfl⟩
      show rightB kd fs.length n = true
      unfold rightB
      rw [if_neg (by omega)]
      by_cases e2 : kd = 2
      · rw [if_neg (by omega), if_pos e2, hf, h2 e2]
        rfl
      · rw [if_pos (by omega), hf, decide_eq_true (by omega)]
        simp
theorem heap_j4 (k : Nat) (x0 x4 : List S71) (x5 x6 : Int) (m : Nat) (kd tg bad : Int) (fs : List Int) (hk : 1 ≤ kd ∧ kd ≤ 5) (hm : m ≤ 12) (hf : m ≤ fs.length) (h2 : kd = 2 → m ≤ 1) (h4 : x4.length ≤ 1000) (hw : ∀ y ∈ fs, i64 y) :
    ∃ o, Fine o ∧ Pa.kindlingref04_Heap.j4 (k + 2) x0 x4 x5 x6 (m : Int) kd tg fs bad = Pa.kindlingref04_Heap.l0 k x0 (x4 ++ [o]) (wrap64 (wrap64 (x5 + 1) + (o.f2.length : Int))) (wrap64 (x6 + 1)) := by
  rw [show k + 2 = (k + 1) + 1 from rfl, Pa.kindlingref04_Heap.j4, Option.bind_some, if_pos (by omega), if_pos (by omega), if_pos (by rw [Int.toNat_natCast, List.length_take]; simp; omega)]
  by_cases e0 : (m : Int) = 0
  · rw [if_pos e0]
    obtain ⟨o, h1, h2', h3⟩ := heap_j5 k x0 x4 x5 x6 1 kd tg bad [-1] hk (by omega) rfl (fun _ => rfl) h4 (fun y hy => by rw [List.mem_singleton] at hy; subst hy; rfl)
    refine ⟨o, h1, ?_⟩
    rw [h2']
    exact h3
  · rw [if_neg e0]
    obtain ⟨o, h1, h2', h3⟩ := heap_j5 k x0 x4 x5 x6 m kd tg bad (([] : List Int) ++ fs.take ((m : Int)).toNat) hk (by omega) (by rw [List.nil_append, Int.toNat_natCast, List.length_take]; omega) (fun e => by have := h2 e; omega) h4 (fun y hy => hw y (by
      rw [List.nil_append] at hy
      exact List.mem_of_mem_take hy))
    refine ⟨o, h1, ?_⟩
    rw [h2']
    exact h3
theorem heap_j2 (k : Nat) (x0 x4 : List S71) (x5 x6 : Int) (m : Nat) (kd tg bad : Int) (fs : List Int) (hk : 1 ≤ kd ∧ kd ≤ 5) (hm : m ≤ 12) (hf : m ≤ fs.length) (h4 : x4.length ≤ 1000) (hw : ∀ y ∈ fs, i64 y) :
    ∃ o, Fine o ∧ Pa.kindlingref04_Heap.j2 (k + 4) x0 x4 x5 x6 (m : Int) kd tg fs bad = Pa.kindlingref04_Heap.l0 k x0 (x4 ++ [o]) (wrap64 (wrap64 (x5 + 1) + (o.f2.length : Int))) (wrap64 (x6 + 1)) := by
  rw [show k + 4 = (k + 3) + 1 from rfl, Pa.kindlingref04_Heap.j2]
  by_cases e2 : kd = 2
  · rw [if_pos e2, show k + 3 = (k + 2) + 1 from rfl, Pa.kindlingref04_Heap.j3]
    by_cases e1 : (m : Int) > 1
    · rw [decide_eq_true e1, if_pos rfl]
      exact heap_j4 k x0 x4 x5 x6 1 kd tg bad fs hk (by omega) (by omega) (fun _ => Nat.le_refl _) h4 hw
    · rw [decide_eq_false e1, if_neg (by decide)]
      exact heap_j4 k x0 x4 x5 x6 m kd tg bad fs hk hm hf (fun _ => by omega) h4 hw
  · rw [if_neg e2, show k + 3 = (k + 2) + 1 from rfl, Pa.kindlingref04_Heap.j3, if_neg (by decide)]
    exact heap_j4 k x0 x4 x5 x6 m kd tg bad fs hk hm hf (fun e => absurd e e2) h4 hw
theorem heap_step (k : Nat) (x0 x4 : List S71) (x5 : Int) (i : Nat) (hi : i < x0.length) (h40 : i < 40) (h4 : x4.length ≤ 1000) (hw : ∀ o ∈ x0, wf71 o) :
    ∃ o, Fine o ∧ Pa.kindlingref04_Heap.l0 (k + 6) x0 x4 x5 (i : Int) = Pa.kindlingref04_Heap.l0 k x0 (x4 ++ [o]) (wrap64 (wrap64 (x5 + 1) + (o.f2.length : Int))) (wrap64 ((i : Int) + 1)) := by
  obtain ⟨r, hr, hr5⟩ := among_f x0[i].f0 5 (by decide) (by decide)
  rw [show k + 6 = (k + 5) + 1 from rfl, Pa.kindlingref04_Heap.l0, if_pos (by omega), show k + 5 = (k + 4) + 1 from rfl, Pa.kindlingref04_Heap.j1, decide_eq_true (by omega), if_pos rfl, if_pos (by omega), if_pos (by omega), rd_at x0 i hi, hr, Option.bind_some,
    w64 (show -9223372036854775808 ≤ 1 + (r : Int) ∧ 1 + (r : Int) ≤ 9223372036854775807 by omega)]
  have hwo := (hw _ (List.getElem_mem hi)).2.2.2
  by_cases e : (x0[i].f2.length : Int) > 12
  · rw [if_pos e]
    exact heap_j2 k x0 x4 x5 i 12 (1 + r) x0[i].f1 x0[i].f3 x0[i].f2 (by omega) (by omega) (by omega) h4 hwo
  · rw [if_neg e]
    exact heap_j2 k x0 x4 x5 i x0[i].f2.length (1 + r) x0[i].f1 x0[i].f3 x0[i].f2 (by omega) (by omega) (Nat.le_refl _) h4 hwo
theorem adr_snoc (l : List S71) (o : S71) : adr (l ++ [o]) (l ++ [o]).length = adr l l.length + (o.f2.length + 1) := by
  unfold adr
  rw [List.take_length, List.take_length, List.map_append, List.sum_append]
  simp
theorem adr_le (l : List S71) (h : ∀ o ∈ l, Fine o) : adr l l.length ≤ 13 * l.length := by
  unfold adr
  rw [List.take_length]
  induction l with
  | nil => simp
  | cons o l ih =>
    have h1 := ih (fun o h' => h o (List.mem_cons_of_mem _ h'))
    have h2 := (h o List.mem_cons_self).n
    simp only [List.map_cons, List.sum_cons, List.length_cons]
    omega
theorem heap_all (x0 : List S71) (hw : ∀ o ∈ x0, wf71 o) : ∀ (d i : Nat) (x4 : List S71), i + d = min x0.length 40 → x4.length = i → (∀ o ∈ x4, Fine o) →
    ∃ l, Pa.kindlingref04_Heap.l0 (6 * d + 2) x0 x4 (64 + (adr x4 x4.length : Int)) (i : Int) = some (l, 64 + (adr l l.length : Int)) ∧ l.length ≤ 40 ∧ (∀ o ∈ l, Fine o) := by
  intro d
  induction d with
  | zero =>
    intro i x4 hi hl hf
    refine ⟨x4, ?_, by omega, hf⟩
    rw [show 6 * 0 + 2 = 1 + 1 from rfl, Pa.kindlingref04_Heap.l0]
    by_cases e : (i : Int) < (x0.length : Int)
    · rw [if_pos e, show (1 : Nat) = 0 + 1 from rfl, Pa.kindlingref04_Heap.j1, decide_eq_false (by omega), if_neg (by decide)]
    · rw [if_neg e, show (1 : Nat) = 0 + 1 from rfl, Pa.kindlingref04_Heap.j1, if_neg (by decide)]
  | succ d ih =>
    intro i x4 hi hl hf
    have hal := adr_le x4 hf
    obtain ⟨o, ho, hs⟩ := heap_step (6 * d + 2) x0 x4 (64 + (adr x4 x4.length : Int)) i (by omega) (by omega) (by omega) hw
    have hon := ho.n
    rw [show 6 * (d + 1) + 2 = (6 * d + 2) + 6 by omega, hs]
    have e1 : wrap64 (wrap64 (64 + (adr x4 x4.length : Int) + 1) + (o.f2.length : Int)) = 64 + (adr (x4 ++ [o]) (x4 ++ [o]).length : Int) := by
      rw [adr_snoc, w64 (n := 64 + (adr x4 x4.length : Int) + 1) (by omega), w64 (by omega)]
      omega
    have e2 : wrap64 ((i : Int) + 1) = ((i + 1 : Nat) : Int) := by rw [w64 (by omega)]; omega
    rw [e1, e2]
    exact ih (i + 1) (x4 ++ [o]) (by omega) (by simp [hl]) (fun p hp => by
      rw [List.mem_append, List.mem_singleton] at hp
      rcases hp with hp | rfl
      · exact hf p hp
      · exact ho)
/-- ref.Heap of any list. -/
theorem heap_f (x0 : List S71) (hw : ∀ o ∈ x0, wf71 o) : ∃ m l, Pa.kindlingref04_Heap.f m x0 = some (l, 64 + (adr l l.length : Int)) ∧ l.length ≤ 40 ∧ (∀ o ∈ l, Fine o) := by
  obtain ⟨l, h1, h2, h3⟩ := heap_all x0 hw (min x0.length 40) 0 [] (by omega) rfl (fun o h => by cases h)
  exact ⟨_, l, h1, h2, h3⟩
def u64 (x : Int) : Prop := 0 ≤ x ∧ x < 18446744073709551616
theorem wrap_u64 (x : Int) : u64 (IntKind.u64.wrap x) := by
  rw [IntKind.wrap_u64]
  unfold u64
  omega
theorem number_f (v : Int) : ∃ r, Pa.kindlingref04_Number.f v = some r := by
  unfold Pa.kindlingref04_Number.f
  split <;> exact ⟨_, rfl⟩
theorem int_f (v : Int) : ∃ r, Pa.kindlingref01_Int.f v = some r ∧ u64 r := by
  unfold Pa.kindlingref01_Int.f Pa.kindlingref01_Wrap.f
  split
  · exact ⟨_, rfl, wrap_u64 _⟩
  · split <;> exact ⟨_, rfl, wrap_u64 _⟩
theorem refptr_f (v : Int) : ∃ r, Pa.kindlingref01_Ptr.f v = some r ∧ u64 r := by
  unfold Pa.kindlingref01_Ptr.f
  split
  · exact ⟨1, rfl, by unfold u64; omega⟩
  · split
    · exact ⟨1, rfl, by unfold u64; omega⟩
    · exact ⟨_, rfl, wrap_u64 _⟩
theorem at_100 (l : List S71) (hl : l.length ≤ 40) (hf : ∀ o ∈ l, Fine o) (k : Nat) (hk : k ≤ l.length) : Pa.kindlingref04_At.f 100 l (k : Int) = some (1 + (adr l k : Int)) := by
  have h1 := adr_le l hf
  have h2 := adr_mono l k (l.length - k)
  rw [show k + (l.length - k) = l.length by omega] at h2
  have h := at_f l k (99 - k) hk (by omega) (by omega)
  rw [show k + 1 + (99 - k) = 100 by omega] at h
  exact h
theorem word_f (l : List S71) (hl : l.length ≤ 40) (hf : ∀ o ∈ l, Fine o) (k : Nat) (hk : k < l.length) (f : Nat) (hfl : f < l[k].f2.length) : ∃ v, Pa.kindlingref04_Word.f 100 l (k : Int) (f : Int) = some v ∧ u64 v := by
  have hn := (hf _ (List.getElem_mem hk)).n
  unfold Pa.kindlingref04_Word.f
  rw [if_pos (by omega), if_pos (by omega), if_pos (by omega), rd_at l k hk, if_pos (by omega)]
  split
  · exact ⟨_, rfl, wrap_u64 _⟩
  · split
    · obtain ⟨r, hr, -⟩ := refptr_f (1 + (adr l k : Int))
      rw [at_100 l hl hf k (by omega), Option.bind_some, hr, Option.bind_some]
      exact ⟨_, rfl, wrap_u64 _⟩
    · split
      · obtain ⟨r, hr⟩ := number_f (rd l[k].f2 (f : Int))
        obtain ⟨s, hs, hu⟩ := int_f r
        rw [hr, Option.bind_some, hs, Option.bind_some]
        exact ⟨_, rfl, hu⟩
      · obtain ⟨r, hr, hrn⟩ := among_f (rd l[k].f2 (f : Int)) (l.length : Int) (by omega) (by omega)
        obtain ⟨s, hs, hu⟩ := refptr_f (1 + (adr l r : Int))
        rw [hr, Option.bind_some, at_100 l hl hf r (by omega), Option.bind_some, hs, Option.bind_some]
        exact ⟨_, rfl, hu⟩
/-- The words of a list's fields. -/
def wvOf (l : List S71) (k f : Nat) : Int := match Pa.kindlingref04_Word.f 100 l (k : Int) (f : Int) with
  | some v => if 0 ≤ v ∧ v < 18446744073709551616 then v else 0
  | none => 0
theorem fine_gl (l : List S71) (hl : l.length ≤ 40) (hf : ∀ o ∈ l, Fine o) : Gl (wvOf l) l (64 + (adr l l.length : Int)) where
  len := by omega
  r := fun o ho => (hf o ho).r
  fit := by omega
  n := by have := adr_le l hf; omega
  wr := by
    intro k f
    unfold wvOf
    split
    · split
      · assumption
      · omega
    · omega
  wd := by
    intro k hk f hfl
    obtain ⟨v, hv, hu⟩ := word_f l hl hf k hk f hfl
    refine ⟨100, ?_⟩
    unfold wvOf
    rw [hv]
    simp only
    rw [if_pos (show 0 ≤ v ∧ v < 18446744073709551616 from hu)]
theorem root_f (l : List S71) (hl : l.length ≤ 40) (hf : ∀ o ∈ l, Fine o) (v : Int) : ∃ r, Pa.kindlingref04_Root.f 101 l v = some r ∧ u64 r := by
  unfold Pa.kindlingref04_Root.f
  split
  · exact ⟨0, rfl, by unfold u64; omega⟩
  · have go : ∀ b, (b = false → v < 0 ∨ l.length ≠ 0) → ∃ r, Pa.kindlingref04_Root.j0 101 l v b = some r ∧ u64 r := by
      intro b hb
      rw [show (101 : Nat) = 100 + 1 from rfl, Pa.kindlingref04_Root.j0]
      cases b with
      | true => exact ⟨1, rfl, by unfold u64; omega⟩
      | false =>
        rw [if_neg (by decide)]
        split
        · obtain ⟨r, hr⟩ := number_f v
          obtain ⟨s, hs, hu⟩ := int_f r
          rw [hr, Option.bind_some, hs, Option.bind_some]
          exact ⟨_, rfl, hu⟩
        · rename_i h
          have h2 := hb rfl
          obtain ⟨r, hr, hrn⟩ := among_f v (l.length : Int) (by omega) (by omega)
          obtain ⟨s, hs, hu⟩ := refptr_f (1 + (adr l r : Int))
          rw [hr, Option.bind_some, at_100 l hl hf r (by omega), Option.bind_some, hs, Option.bind_some]
          exact ⟨_, rfl, hu⟩
    split
    · exact go _ (fun h => by have := of_decide_eq_false h; omega)
    · rename_i h
      exact go _ (fun _ => .inr (by omega))
/-- The words of some roots. -/
theorem words_f (l : List S71) (hl : l.length ≤ 40) (hf : ∀ o ∈ l, Fine o) (rs : List Int) : ∃ xs, Pa.kindlinglaw04_words.f 200 l rs = some xs ∧ xs.length ≤ 50 ∧ ∀ x ∈ xs, u64 x := by
  have key : ∀ (d i : Nat) (acc : List Int), i + d = min rs.length 50 → acc.length = i → (∀ x ∈ acc, u64 x) → ∃ xs, Pa.kindlinglaw04_words.l0 (200 - i) l rs acc (i : Int) = some xs ∧ xs.length ≤ 50 ∧ ∀ x ∈ xs, u64 x := by
    intro d
    induction d with
    | zero =>
      intro i acc hi ha hu
      refine ⟨acc, ?_, by omega, hu⟩
      rw [show 200 - i = (199 - i) + 1 by omega, Pa.kindlinglaw04_words.l0]
      by_cases e : (i : Int) < (rs.length : Int)
      · rw [if_pos e, if_neg (by omega)]
      · rw [if_neg e]
    | succ d ih =>
      intro i acc hi ha hu
      obtain ⟨r, hr, hru⟩ := root_f l hl hf (rd rs (i : Int))
      have hmono : Pa.kindlingref04_Root.f (199 - i) l (rd rs (i : Int)) = some r := by
        have hm := Pa.kindlingref04_Root.mono
        obtain ⟨e, he⟩ : ∃ e, 199 - i = 101 + e := ⟨199 - i - 101, by omega⟩
        rw [he]
        clear he
        induction e with
        | zero => exact hr
        | succ e ihe => exact hm _ _ _ _ ihe
      rw [show 200 - i = (199 - i) + 1 by omega, Pa.kindlinglaw04_words.l0, if_pos (by omega), if_pos (by omega), if_pos (by omega), hmono, Option.bind_some, if_pos (by omega), w64 (by omega)]
      have h := ih (i + 1) (acc ++ [r]) (by omega) (by simp [ha]) (fun x hx => by
        rw [List.mem_append, List.mem_singleton] at hx
        rcases hx with hx | rfl
        · exact hu x hx
        · exact hru)
      rw [show 200 - (i + 1) = 199 - i by omega] at h
      exact h
  exact key (min rs.length 50) 0 [] (by omega) rfl (fun x h => by cases h)
end Go.Proofs.Ytjccaojlldkmpaa.Mem

