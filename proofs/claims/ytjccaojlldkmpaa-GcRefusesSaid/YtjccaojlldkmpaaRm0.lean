/- The document's memory as it lies: rows of objects, each with a row of words of its own. -/
import Derived.Test.YtjccaojlldkmpaaMemA
import Derived.Test.YtjccaojlldkmpaaPa4
import Derived.Test.YtjccaojlldkmpaaPa3
namespace Go.Proofs.Ytjccaojlldkmpaa.Rm
open Go.RowKit Go.Proofs.YtjccaojlldkmpaaW.PrintWords Go.Proofs.YtjccaojlldkmpaaW.PrintLast Go.Proofs.YtjccaojlldkmpaaW.PrintMore
open Mem (Fr)
open Pa (S87 k87 z87 rd_T87 at_T87 k87_mk)
set_option linter.unusedSimpArgs false
set_option linter.unusedVariables false
/-- An object, with the row that its words lie in. -/
structure P5 where
  o : S87
  v : Value
def P5.cells (p : P5) : List Value := [.int .i64 p.o.f0, .int .i64 p.o.f1, .int .i64 p.o.f2, p.v, .int .i64 p.o.f4]
def kP : Kd P5 where
  sz := 5
  E := [56]
  K := fun w x cs => cs = x.cells ∧ ∃ A c, x.v = .slice A x.o.f3.length c ∧ x.o.f3.length ≤ c ∧ (Kd.int .u64).C w A x.o.f3.length x.o.f3
  M := fun w base ok x cs => cs = x.cells ∧ (Kd.int .u64).R 56 w base ok x.v x.o.f3
  K_len := by
    rintro w x cs ⟨rfl, -⟩
    rfl
  K_one := by
    rintro w x cs ⟨rfl, A, c, hv, -⟩ u hu
    simp only [P5.cells, hv, List.mem_cons, List.not_mem_nil, or_false] at hu
    rcases hu with rfl | rfl | rfl | rfl | rfl <;> rfl
  K_below := by
    rintro w w1 x cs hb ⟨rfl, A, c, hv, hl, hr⟩
    exact ⟨rfl, A, c, hv, hl, Kd.C_below hr hb⟩
  K_of_M := by
    rintro w base ok x cs ⟨rfl, h⟩
    obtain ⟨A, c, hv, hl, hr⟩ := Kd.R_reads h
    exact ⟨rfl, A, c, hv, hl, hr⟩
  M_mono := by
    rintro w base ok ok' x cs hok ⟨rfl, h⟩
    exact ⟨rfl, Kd.R_mono h hok⟩
  M_bound := by
    rintro w base ok x cs ⟨rfl, h⟩
    exact ⟨rfl, Kd.R_bound h⟩
  M_move := by
    rintro w w1 base ok x cs hm ⟨rfl, h⟩
    exact ⟨rfl, Kd.R_move h hm⟩
  M_lower := by
    rintro w base base' ok x cs hb ⟨rfl, h⟩
    exact ⟨rfl, Kd.R_lower h hb⟩
def Ro (w : World) (v : Value) (l : List P5) : Prop := kP.R 87 w 0 (fun _ => True) v l
variable {S : Nat → Prop} {w w' W : World} {g n c : Nat} {v : Value} {l : List P5}
def zP : P5 := ⟨z87, .slice none 0 0⟩
theorem Ro.shape (h : Ro w v l) (hp : 0 < l.length) : ∃ q c cells, v = .slice (some ⟨q, 0, none⟩) l.length c ∧ w.heap[q]? = some (.cells cells 87 (0, 0)) ∧ ∀ k, (hk : k < l.length) → ∀ j u, l[k].cells[j]? = some u → cells[k * 5 + j]? = some u := by
  obtain ⟨q, c, hv, -, -, cells, hb⟩ := Kd.R_form h hp
  refine ⟨q, c, cells, hv, hb, fun k hk j u hu => ?_⟩
  unfold Ro at h
  rw [hv] at h
  obtain ⟨cs, -, hM, hcc, -⟩ := Kd.R_elem h zP (k : Int) (by omega) (by omega)
  obtain ⟨rfl, -⟩ := hM
  have e : l.getD (k : Int).toNat zP = l[k] := by simp [List.getD, hk]
  rw [e, Int.toNat_natCast] at hcc
  have := hcc j u hu
  rwa [blk_cell hb] at this
theorem Ro.slice (h : Ro w v l) : ∃ A c, v = .slice A l.length c := Kd.R_slice h
theorem Ro.len (h : Ro w v l) : l.length ≤ 9223372036854775807 := by
  obtain ⟨A, c, rfl⟩ := h.slice
  obtain ⟨inner, h1, h2⟩ := Kd.R_own h
  rcases h2 with ⟨h2, h3⟩ | ⟨q, cap, cur, h2, -, -, h3, h4, -⟩
  · omega
  · simp only [maxLen] at h4
    omega
/-- The objects, read. -/
theorem Ro.reads (h : Ro w v l) : ∃ A c, v = .slice A (l.map P5.o).length c ∧ (l.map P5.o).length ≤ c ∧ Kd.C k87 w A (l.map P5.o).length (l.map P5.o) := by
  obtain ⟨A, c, hv, hl, hC⟩ := Kd.R_reads h
  refine ⟨A, c, by rw [List.length_map]; exact hv, by rw [List.length_map]; exact hl, rfl, by rw [List.length_map]; exact hC.2.1, fun hp => ?_⟩
  rw [List.length_map] at hp
  obtain ⟨ad, ha, hc⟩ := hC.2.2 hp
  refine ⟨ad, ha, fun j p hj => ?_⟩
  rw [List.getElem?_map] at hj
  obtain ⟨q, hq, rfl⟩ := Option.map_eq_some_iff.1 hj
  obtain ⟨cs, hcl, ⟨hcs, A', c', hv', hl', hC'⟩, hcc⟩ := hc j q hq
  refine ⟨cs, hcl, ?_, hcc⟩
  rw [hcs, P5.cells, hv']
  exact k87_mk w q.o hl' hC'
/-- The row of words of an object. -/
theorem Ro.row (h : Ro w v l) (k : Nat) (hk : k < l.length) : (Kd.int .u64).R 56 w 0 (fun j => some j ≠ v.ownBlock) l[k].v l[k].o.f3 := by
  obtain ⟨-, inner, -, hr⟩ := h
  obtain ⟨-, hM⟩ := hr.2 k l[k] (List.getElem?_eq_getElem hk)
  exact Kd.R_mono hM (fun j hj => hj.2)
theorem Ro.keep (h : Ro w v l) {T : Nat → Prop} (fr : Fr T w w') (hv : ∀ k, v.ownBlock = some k → ¬ T k) (hw : ∀ p ∈ l, ∀ k, p.v.ownBlock = some k → ¬ T k) : Ro w' v l := by
  obtain ⟨-, inner, ho, hr⟩ := h
  refine ⟨fun _ _ => trivial, inner, ?_, hr.1, fun j p hj => ?_⟩
  · refine own_move (w := w) ho (fun k hk => fr.same k ?_ (hv k hk))
    obtain ⟨cells, hc⟩ := own_typed ho k hk
    exact blk_lt hc
  · obtain ⟨h1, hM⟩ := hr.2 j p hj
    refine ⟨h1, ?_⟩
    have hM2 := Kd.R_tight rfl hM
    exact Kd.R_mono (Kd.R_step hM2 (fun k hk hl => fr.same k hl (hw p (List.mem_of_getElem? hj) k hk.symm))) (fun k hk => ⟨trivial, fun e => (hM.1 k hk.symm).2 e⟩)
theorem Ro.lt (h : Ro w v l) : ∀ k, v.ownBlock = some k → k < w.heap.size := Kd.R_lt h
theorem Ro.lt_row (h : Ro w v l) : ∀ p ∈ l, ∀ k, p.v.ownBlock = some k → k < w.heap.size := by
  intro p hp k hk
  obtain ⟨i, hi, rfl⟩ := List.mem_iff_getElem.1 hp
  exact Kd.R_lt (h.row i hi) k hk
theorem Ro.typed (h : Ro w v l) : ∀ k, v.ownBlock = some k → ∃ cells, w.heap[k]? = some (.cells cells 87 (0, 0)) := by
  obtain ⟨inner, ho⟩ := Kd.R_own h
  exact own_typed ho
theorem Ro.typed_row (h : Ro w v l) : ∀ p ∈ l, ∀ k, p.v.ownBlock = some k → ∃ cells, w.heap[k]? = some (.cells cells 56 (0, 0)) := by
  intro p hp k hk
  obtain ⟨i, hi, rfl⟩ := List.mem_iff_getElem.1 hp
  obtain ⟨inner, ho⟩ := Kd.R_own (h.row i hi)
  exact own_typed ho k hk
/-- A word of an object is turned. -/
theorem Ro.word (h : Ro w v l) (k : Nat) (hk : k < l.length) {q c : Nat} (hv : l[k].v = .slice (some ⟨q, 0, none⟩) l[k].o.f3.length c) (hd : ∀ j, (hj : j < l.length) → j ≠ k → l[j].v.ownBlock ≠ some q) (i : Nat) (x : Int) :
    Ro (w.setCell ⟨q, i, none⟩ (.int .u64 x)) v (l.set k ⟨{ l[k].o with f3 := l[k].o.f3.set i x }, l[k].v⟩) := by
  have hvq : v.ownBlock ≠ some q := fun e => by
    obtain ⟨c1, h1⟩ := h.typed q e
    obtain ⟨c2, h2⟩ := h.typed_row _ (List.getElem_mem hk) q (by rw [hv]; rfl)
    rw [h1] at h2
    cases h2
  obtain ⟨-, inner, ho, hr⟩ := h
  refine ⟨fun _ _ => trivial, inner, ?_, by rw [List.length_set]; exact hr.1, fun j p hj => ?_⟩
  · rw [List.length_set]
    exact own_move ho (fun b hb => Below.heap_setCell _ _ _ b (fun e => hvq (by have e' : b = q := e; rw [← e']; exact hb)))
  · rw [List.getElem?_set] at hj
    by_cases e : k = j
    · subst e
      rw [if_pos rfl, if_pos hk] at hj
      cases hj
      obtain ⟨h1, hM⟩ := hr.2 k l[k] (List.getElem?_eq_getElem hk)
      refine ⟨h1, ?_⟩
      show (Kd.int .u64).R 56 _ 0 _ l[k].v _
      rw [hv] at hM ⊢
      have := Kd.R_putn hM (i : Int) x
      rw [Int.toNat_natCast] at this
      exact this
    · rw [if_neg e] at hj
      obtain ⟨h1, hM⟩ := hr.2 j p hj
      refine ⟨h1, ?_⟩
      obtain ⟨hjl, rfl⟩ := List.getElem?_eq_some_iff.1 hj
      have hM2 := Kd.R_tight rfl hM
      exact Kd.R_mono (Kd.R_far (p := ⟨q, i, none⟩) hM2 (fun b hb e2 => hd j hjl (fun e => by omega) (by have e' : b = q := e2; rw [← e']; exact hb.symm)) _) (fun b hb => ⟨trivial, fun e => (hM.1 b hb.symm).2 e⟩)
/-- A number of an object is turned. -/
theorem Ro.num (h : Ro w v l) {q c : Nat} (hv : v = .slice (some ⟨q, 0, none⟩) l.length c) (k : Nat) (hk : k < l.length) (j : Nat) (x : Int) (o' : S87) (hj : j < 5) (hc : l[k].cells.take j ++ [.int .i64 x] ++ l[k].cells.drop (j + 1) = (⟨o', l[k].v⟩ : P5).cells) (h3 : o'.f3 = l[k].o.f3) :
    Ro (w.setCell ⟨q, k * 5 + j, none⟩ (.int .i64 x)) v (l.set k ⟨o', l[k].v⟩) := by
  unfold Ro at h ⊢
  rw [hv] at h ⊢
  obtain ⟨cs, hcl, hM, hcc, -⟩ := Kd.R_elem h zP (k : Int) (by omega) (by omega)
  have e : l.getD (k : Int).toNat zP = l[k] := by simp [List.getD, hk]
  rw [e] at hM
  obtain ⟨rfl, hM⟩ := hM
  have := (Kd.R_seg (okp := fun b => True ∧ b ≠ q) h (k : Int) (by omega) (by omega) hcl hcc (seg := [.int .i64 x]) (j := j) (by show j + 1 ≤ 5; omega) (x' := ⟨o', l[k].v⟩) ⟨hc, by show (Kd.int .u64).R 56 w 0 _ l[k].v o'.f3; rw [h3]; exact hM⟩ (fun b hb => hb)).1
  rw [Int.toNat_natCast] at this
  exact this
end Go.Proofs.Ytjccaojlldkmpaa.Rm
