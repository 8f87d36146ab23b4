/- The document's memory, walked: Rm0 to Rm8 and Rs in one text (never import both). -/
import Derived.Test.YtjccaojlldkmpaaMemA
import Derived.Test.YtjccaojlldkmpaaPa4
import Derived.Test.YtjccaojlldkmpaaPa3
import Derived.Deep.QuietTactic
import Derived.BigRegion
import Derived.Deep.RegionHeld3
import Derived.Deep.RegionLaw
import Derived.Test.YtjccaojlldkmpaaGB
import Derived.Test.YtjccaojlldkmpaaAl
/- The document's memory as it lies: rows of objects, each with a row of words of its own. -/
namespace Go.Proofs.Ytjccaojlldkmpaa.Rm
open Go.RowKit Go.Proofs.YtjccaojlldkmpaaW.PrintWords Go.Proofs.YtjccaojlldkmpaaW.PrintLast Go.Proofs.YtjccaojlldkmpaaW.PrintMore
open Mem (Fr)
open Pa (S87 k87 z87 rd_T87 at_T87 k87_mk)
set_option linter.unusedSimpArgs false
set_option linter.unusedVariables false
/-- An object, with the row that its words lie in. -/
structure P5 where
  o : S87
  v : Value
def P5.cells (p : P5) : List Value := [.int .i64 p.o.f0, .int .i64 p.o.f1, .int .i64 p.o.f2, p.v, .int .i64 p.o.f4]
def kP : Kd P5 where
  sz := 5
  E := [56]
  K := fun w x cs => cs = x.cells ∧ ∃ A c, x.v = .slice A x.o.f3.length c ∧ x.o.f3.length ≤ c ∧ (Kd.int .u64).C w A x.o.f3.length x.o.f3
  M := fun w base ok x cs => cs = x.cells ∧ (Kd.int .u64).R 56 w base ok x.v x.o.f3
  K_len := by
    rintro w x cs ⟨rfl, -⟩
    rfl
  K_one := by
    rintro w x cs ⟨rfl, A, c, hv, -⟩ u hu
    simp only [P5.cells, hv, List.mem_cons, List.not_mem_nil, or_false] at hu
    rcases hu with rfl | rfl | rfl | rfl | rfl <;> rfl
  K_below := by
    rintro w w1 x cs hb ⟨rfl, A, c, hv, hl, hr⟩
    exact ⟨rfl, A, c, hv, hl, Kd.C_below hr hb⟩
  K_of_M := by
    rintro w base ok x cs ⟨rfl, h⟩
    obtain ⟨A, c, hv, hl, hr⟩ := Kd.R_reads h
    exact ⟨rfl, A, c, hv, hl, hr⟩
  M_mono := by
    rintro w base ok ok' x cs hok ⟨rfl, h⟩
    exact ⟨rfl, Kd.R_mono h hok⟩
  M_bound := by
    rintro w base ok x cs ⟨rfl, h⟩
    exact ⟨rfl, Kd.R_bound h⟩
  M_move := by
    rintro w w1 base ok x cs hm ⟨rfl, h⟩
    exact ⟨rfl, Kd.R_move h hm⟩
  M_lower := by
    rintro w base base' ok x cs hb ⟨rfl, h⟩
    exact ⟨rfl, Kd.R_lower h hb⟩
def Ro (w : World) (v : Value) (l : List P5) : Prop := kP.R 87 w 0 (fun _ => True) v l
variable {S : Nat → Prop} {w w' W : World} {g n c : Nat} {v : Value} {l : List P5}
def zP : P5 := ⟨z87, .slice none 0 0⟩
theorem Ro.shape (h : Ro w v l) (hp : 0 < l.length) : ∃ q c cells, v = .slice (some ⟨q, 0, none⟩) l.length c ∧ w.heap[q]? = some (.cells cells 87 (0, 0)) ∧ ∀ k, (hk : k < l.length) → ∀ j u, l[k].cells[j]? = some u → cells[k * 5 + j]? = some u := by
  obtain ⟨q, c, hv, -, -, cells, hb⟩ := Kd.R_form h hp
  refine ⟨q, c, cells, hv, hb, fun k hk j u hu => ?_⟩
  unfold Ro at h
  rw [hv] at h
  obtain ⟨cs, -, hM, hcc, -⟩ := Kd.R_elem h zP (k : Int) (by omega) (by omega)
  obtain ⟨rfl, -⟩ := hM
  have e : l.getD (k : Int).toNat zP = l[k] := by simp [List.getD, hk]
  rw [e, Int.toNat_natCast] at hcc
  have := hcc j u hu
  rwa [blk_cell hb] at this
theorem Ro.slice (h : Ro w v l) : ∃ A c, v = .slice A l.length c := Kd.R_slice h
theorem Ro.len (h : Ro w v l) : l.length ≤ 9223372036854775807 := by
  obtain ⟨A, c, rfl⟩ := h.slice
  obtain ⟨inner, h1, h2⟩ := Kd.R_own h
  rcases h2 with ⟨h2, h3⟩ | ⟨q, cap, cur, h2, -, -, h3, h4, -⟩
  · omega
  · simp only [maxLen] at h4
    omega
/-- The objects, read. -/
theorem Ro.reads (h : Ro w v l) : ∃ A c, v = .slice A (l.map P5.o).length c ∧ (l.map P5.o).length ≤ c ∧ Kd.C k87 w A (l.map P5.o).length (l.map P5.o) := by
  obtain ⟨A, c, hv, hl, hC⟩ := Kd.R_reads h
  refine ⟨A, c, by rw [List.length_map]; exact hv, by rw [List.length_map]; exact hl, rfl, by rw [List.length_map]; exact hC.2.1, fun hp => ?_⟩
  rw [List.length_map] at hp
  obtain ⟨ad, ha, hc⟩ := hC.2.2 hp
  refine ⟨ad, ha, fun j p hj => ?_⟩
  rw [List.getElem?_map] at hj
  obtain ⟨q, hq, rfl⟩ := Option.map_eq_some_iff.1 hj
  obtain ⟨cs, hcl, ⟨hcs, A', c', hv', hl', hC'⟩, hcc⟩ := hc j q hq
  refine ⟨cs, hcl, ?_, hcc⟩
  rw [hcs, P5.cells, hv']
  exact k87_mk w q.o hl' hC'
/-- The row of words of an object. -/
theorem Ro.row (h : Ro w v l) (k : Nat) (hk : k < l.length) : (Kd.int .u64).R 56 w 0 (fun j => some j ≠ v.ownBlock) l[k].v l[k].o.f3 := by
  obtain ⟨-, inner, -, hr⟩ := h
  obtain ⟨-, hM⟩ := hr.2 k l[k] (List.getElem?_eq_getElem hk)
  exact Kd.R_mono hM (fun j hj => hj.2)
theorem Ro.keep (h : Ro w v l) {T : Nat → Prop} (fr : Fr T w w') (hv : ∀ k, v.ownBlock = some k → ¬ T k) (hw : ∀ p ∈ l, ∀ k, p.v.ownBlock = some k → ¬ T k) : Ro w' v l := by
  obtain ⟨-, inner, ho, hr⟩ := h
  refine ⟨fun _ _ => trivial, inner, ?_, hr.1, fun j p hj => ?_⟩
  · refine own_move (w := w) ho (fun k hk => fr.same k ?_ (hv k hk))
    obtain ⟨cells, hc⟩ := own_typed ho k hk
    exact blk_lt hc
  · obtain ⟨h1, hM⟩ := hr.2 j p hj
    refine ⟨h1, ?_⟩
    have hM2 := Kd.R_tight rfl hM
    exact Kd.R_mono (Kd.R_step hM2 (fun k hk hl => fr.same k hl (hw p (List.mem_of_getElem? hj) k hk.symm))) (fun k hk => ⟨trivial, fun e => (hM.1 k hk.symm).2 e⟩)
theorem Ro.lt (h : Ro w v l) : ∀ k, v.ownBlock = some k → k < w.heap.size := Kd.R_lt h
theorem Ro.lt_row (h : Ro w v l) : ∀ p ∈ l, ∀ k, p.v.ownBlock = some k → k < w.heap.size := by
  intro p hp k hk
  obtain ⟨i, hi, rfl⟩ := List.mem_iff_getElem.1 hp
  exact Kd.R_lt (h.row i hi) k hk
theorem Ro.typed (h : Ro w v l) : ∀ k, v.ownBlock = some k → ∃ cells, w.heap[k]? = some (.cells cells 87 (0, 0)) := by
  obtain ⟨inner, ho⟩ := Kd.R_own h
  exact own_typed ho
theorem Ro.typed_row (h : Ro w v l) : ∀ p ∈ l, ∀ k, p.v.ownBlock = some k → ∃ cells, w.heap[k]? = some (.cells cells 56 (0, 0)) := by
  intro p hp k hk
  obtain ⟨i, hi, rfl⟩ := List.mem_iff_getElem.1 hp
  obtain ⟨inner, ho⟩ := Kd.R_own (h.row i hi)
  exact own_typed ho k hk
/-- A word of an object is turned. -/
theorem Ro.word (h : Ro w v l) (k : Nat) (hk : k < l.length) {q c : Nat} (hv : l[k].v = .slice (some ⟨q, 0, none⟩) l[k].o.f3.length c) (hd : ∀ j, (hj : j < l.length) → j ≠ k → l[j].v.ownBlock ≠ some q) (i : Nat) (x : Int) :
    Ro (w.setCell ⟨q, i, none⟩ (.int .u64 x)) v (l.set k ⟨{ l[k].o with f3 := l[k].o.f3.set i x }, l[k].v⟩) := by
  have hvq : v.ownBlock ≠ some q := fun e => by
    obtain ⟨c1, h1⟩ := h.typed q e
    obtain ⟨c2, h2⟩ := h.typed_row _ (List.getElem_mem hk) q (by rw [hv]; rfl)
    rw [h1] at h2
    cases h2
  obtain ⟨-, inner, ho, hr⟩ := h
  refine ⟨fun _ _ => trivial, inner, ?_, by rw [List.length_set]; exact hr.1, fun j p hj => ?_⟩
  · rw [List.length_set]
    exact own_move ho (fun b hb => Below.heap_setCell _ _ _ b (fun e => hvq (by have e' : b = q := e; rw [← e']; exact hb)))
  · rw [List.getElem?_set] at hj
    by_cases e : k = j
    · subst e
      rw [if_pos rfl, if_pos hk] at hj
      cases hj
      obtain ⟨h1, hM⟩ := hr.2 k l[k] (List.getElem?_eq_getElem hk)
      refine ⟨h1, ?_⟩
      show (Kd.int .u64).R 56 _ 0 _ l[k].v _
      rw [hv] at hM ⊢
      have := Kd.R_putn hM (i : Int) x
      rw [Int.toNat_natCast] at this
      exact this
    · rw [if_neg e] at hj
      obtain ⟨h1, hM⟩ := hr.2 j p hj
      refine ⟨h1, ?_⟩
      obtain ⟨hjl, rfl⟩ := List.getElem?_eq_some_iff.1 hj
      have hM2 := Kd.R_tight rfl hM
      exact Kd.R_mono (Kd.R_far (p := ⟨q, i, none⟩) hM2 (fun b hb e2 => hd j hjl (fun e => by omega) (by have e' : b = q := e2; rw [← e']; exact hb.symm)) _) (fun b hb => ⟨trivial, fun e => (hM.1 b hb.symm).2 e⟩)
/-- A number of an object is turned. -/
theorem Ro.num (h : Ro w v l) {q c : Nat} (hv : v = .slice (some ⟨q, 0, none⟩) l.length c) (k : Nat) (hk : k < l.length) (j : Nat) (x : Int) (o' : S87) (hj : j < 5) (hc : l[k].cells.take j ++ [.int .i64 x] ++ l[k].cells.drop (j + 1) = (⟨o', l[k].v⟩ : P5).cells) (h3 : o'.f3 = l[k].o.f3) :
    Ro (w.setCell ⟨q, k * 5 + j, none⟩ (.int .i64 x)) v (l.set k ⟨o', l[k].v⟩) := by
  unfold Ro at h ⊢
  rw [hv] at h ⊢
  obtain ⟨cs, hcl, hM, hcc, -⟩ := Kd.R_elem h zP (k : Int) (by omega) (by omega)
  have e : l.getD (k : Int).toNat zP = l[k] := by simp [List.getD, hk]
  rw [e] at hM
  obtain ⟨rfl, hM⟩ := hM
  have := (Kd.R_seg (okp := fun b => True ∧ b ≠ q) h (k : Int) (by omega) (by omega) hcl hcc (seg := [.int .i64 x]) (j := j) (by show j + 1 ≤ 5; omega) (x' := ⟨o', l[k].v⟩) ⟨hc, by show (Kd.int .u64).R 56 w 0 _ l[k].v o'.f3; rw [h3]; exact hM⟩ (fun b hb => hb)).1
  rw [Int.toNat_natCast] at this
  exact this
end Go.Proofs.Ytjccaojlldkmpaa.Rm
/- The document's memory: its states. -/
namespace Go.Proofs.Ytjccaojlldkmpaa.Rm
open Go.RowKit Go.Proofs.YtjccaojlldkmpaaW.PrintWords Go.Proofs.YtjccaojlldkmpaaW.PrintLast Go.Proofs.YtjccaojlldkmpaaW.PrintMore
open Mem (Fr)
open Pa (S87 k87 z87 rd_T87 at_T87 k87_mk)
set_option linter.unusedSimpArgs false
set_option linter.unusedVariables false
structure RS where
  size : Int
  half : Int
  now : List P5
  old : List P5
/-- No two objects have one row of words. -/
def Apart (l : List P5) : Prop := l.Pairwise fun a b => ∀ k, a.v.ownBlock = some k → b.v.ownBlock ≠ some k
structure Lies (S : Nat → Prop) (w : World) (g : Nat) (vn vo : Value) (rs : RS) : Prop where
  blk : w.heap[g]? = some (.cells #[.int .i64 rs.size, .int .i64 rs.half, vn, vo] 30 (0, 0))
  now : Ro w vn rs.now
  old : Ro w vo rs.old
  ap : ∀ k, vn.ownBlock = some k → vo.ownBlock ≠ some k
  pd : Apart (rs.now ++ rs.old)
  sg : S g
  sn : ∀ k, vn.ownBlock = some k → S k
  so : ∀ k, vo.ownBlock = some k → S k
  sw : ∀ p ∈ rs.now ++ rs.old, ∀ k, p.v.ownBlock = some k → S k
variable {S : Nat → Prop} {w w' W : World} {g n c : Nat} {vn vo v : Value} {rs : RS} {l : List P5}
theorem Lies.keep (L : Lies S w g vn vo rs) {T : Nat → Prop} (fr : Fr T w w') (hT : ∀ k, S k → ¬ T k) : Lies S w' g vn vo rs where
  blk := (fr.same g (blk_lt L.blk) (hT g L.sg)).trans L.blk
  now := L.now.keep fr (fun k hk => hT k (L.sn k hk)) (fun p hp k hk => hT k (L.sw p (List.mem_append_left _ hp) k hk))
  old := L.old.keep fr (fun k hk => hT k (L.so k hk)) (fun p hp k hk => hT k (L.sw p (List.mem_append_right _ hp) k hk))
  ap := L.ap
  pd := L.pd
  sg := L.sg
  sn := L.sn
  so := L.so
  sw := L.sw
theorem Lies.more (L : Lies S w g vn vo rs) {T : Nat → Prop} (h : ∀ k, S k → T k) : Lies T w g vn vo rs :=
  ⟨L.blk, L.now, L.old, L.ap, L.pd, h _ L.sg, fun k hk => h k (L.sn k hk), fun k hk => h k (L.so k hk), fun p hp k hk => h k (L.sw p hp k hk)⟩
theorem Lies.bound (L : Lies S w g vn vo rs) : Lies (fun k => S k ∧ k < w.heap.size) w g vn vo rs :=
  ⟨L.blk, L.now, L.old, L.ap, L.pd, ⟨L.sg, blk_lt L.blk⟩, fun k hk => ⟨L.sn k hk, L.now.lt k hk⟩, fun k hk => ⟨L.so k hk, L.old.lt k hk⟩, fun p hp k hk => ⟨L.sw p hp k hk, by
    rcases List.mem_append.1 hp with h | h
    · exact L.now.lt_row p h k hk
    · exact L.old.lt_row p h k hk⟩⟩
theorem Lies.drawn (L : Lies S w g vn vo rs) (hd : Drawn0 w w') : Lies S w' g vn vo rs := L.keep (T := fun _ => False) (Fr.of_drawn hd) (fun _ _ h => h)
/-- A state, told without the rows. -/
structure RT where
  size : Int
  half : Int
  now : List S87
  old : List S87
def RS.t (rs : RS) : RT := ⟨rs.size, rs.half, rs.now.map P5.o, rs.old.map P5.o⟩
/-- Block g is a memory of the document's in state t; all its blocks are in S. -/
def IsRef (S : Nat → Prop) (w : World) (g : Nat) (t : RT) : Prop := ∃ vn vo rs, Lies S w g vn vo rs ∧ rs.t = t
variable {t : RT}
theorem IsRef.keep (M : IsRef S w g t) {T : Nat → Prop} (fr : Fr T w w') (hT : ∀ k, S k → ¬ T k) : IsRef S w' g t := by
  obtain ⟨vn, vo, rs, L, rfl⟩ := M
  exact ⟨vn, vo, rs, L.keep fr hT, rfl⟩
theorem IsRef.more (M : IsRef S w g t) {T : Nat → Prop} (h : ∀ k, S k → T k) : IsRef T w g t := by
  obtain ⟨vn, vo, rs, L, rfl⟩ := M
  exact ⟨vn, vo, rs, L.more h, rfl⟩
theorem IsRef.bound (M : IsRef S w g t) : IsRef (fun k => S k ∧ k < w.heap.size) w g t := by
  obtain ⟨vn, vo, rs, L, rfl⟩ := M
  exact ⟨vn, vo, rs, L.bound, rfl⟩
theorem IsRef.drawn (M : IsRef S w g t) (hd : Drawn0 w w') : IsRef S w' g t := M.keep (T := fun _ => False) (Fr.of_drawn hd) (fun _ _ h => h)
theorem IsRef.below (M : IsRef S w g t) (hb : Below w.heap.size w w') : IsRef S w' g t := M.keep (T := fun _ => False) (Fr.of_below hb) (fun _ _ h => h)
/-! ### Used, Find, Next, Free -/
def used (l : List S87) : Nat := (l.map (fun o => o.f3.length + 1)).sum
def find (l : List S87) (a : Int) : Int := if h : ∃ i, i < l.length ∧ (rd_T87 l i).f0 = a then (l.findIdx (fun o => o.f0 == a) : Int) else -1
theorem used_f (l : List S87) (h : used l ≤ 1000000000) (h2 : l.length ≤ 1000000000) : Pa.kindlingref02_Used.f (l.length + 1) l = some (used l : Int) := by
  have go : ∀ d k, k + d = l.length → ∀ m, d < m → Pa.kindlingref02_Used.l0 m l (used (l.take k) : Int) (k : Int) = some (used l : Int) := by
    intro d
    induction d with
    | zero =>
      intro k hk m hm
      obtain ⟨m, rfl⟩ : ∃ m', m = m' + 1 := ⟨m - 1, by omega⟩
      rw [Pa.kindlingref02_Used.l0, if_neg (by omega), List.take_of_length_le (by omega)]
    | succ d ih =>
      intro k hk m hm
      obtain ⟨m, rfl⟩ : ∃ m', m = m' + 1 := ⟨m - 1, by omega⟩
      have hkl : k < l.length := by omega
      have e : rd_T87 l (k : Int) = l[k] := by simp [rd_T87, List.getD, hkl]
      have es : used (l.take (k + 1)) = used (l.take k) + (l[k].f3.length + 1) := by
        unfold used
        rw [List.take_succ_eq_append_getElem hkl, List.map_append, List.sum_append]
        simp
      have hle : used (l.take (k + 1)) ≤ used l := by
        conv => rhs; rw [← List.take_append_drop (k + 1) l]
        unfold used
        rw [List.map_append, List.sum_append]
        omega
      rw [Pa.kindlingref02_Used.l0, if_pos (by omega), if_pos (by omega), e, Hf.w64_of (n := (used (l.take k) : Int) + 1) (by omega), Hf.w64_of (n := (used (l.take k) : Int) + 1 + (l[k].f3.length : Int)) (by omega), Hf.w64_of (by omega)]
      have := ih (k + 1) (by omega) m (by omega)
      rw [es] at this
      rw [show (used (l.take k) : Int) + 1 + (l[k].f3.length : Int) = ((used (l.take k) + (l[k].f3.length + 1) : Nat) : Int) by omega]
      exact this
  have := go l.length 0 (by omega) (l.length + 1) (by omega)
  rw [List.take_zero] at this
  exact this
/-- Where an address is found. -/
theorem find_yes (l : List S87) (a : Int) (k : Nat) (hk : k < l.length) (hl : l.length ≤ 1000000000) (ha : l[k].f0 = a) (hn : ∀ j, (hj : j < k) → (l[j]'(by omega)).f0 ≠ a) : Pa.kindlingref02_Find.f (l.length + 1) l a = some (k : Int) := by
  have go : ∀ d j, j + d = k → ∀ m, d < m → Pa.kindlingref02_Find.l0 m l a (j : Int) = some (k : Int) := by
    intro d
    induction d with
    | zero =>
      intro j hj m hm
      obtain ⟨m, rfl⟩ : ∃ m', m = m' + 1 := ⟨m - 1, by omega⟩
      obtain rfl : j = k := by omega
      have e : rd_T87 l (j : Int) = l[j] := by simp [rd_T87, List.getD, hk]
      rw [Pa.kindlingref02_Find.l0, if_pos (by omega), if_pos (by omega), e, if_pos ha]
    | succ d ih =>
      intro j hj m hm
      obtain ⟨m, rfl⟩ : ∃ m', m = m' + 1 := ⟨m - 1, by omega⟩
      have hjl : j < l.length := by omega
      have e : rd_T87 l (j : Int) = l[j] := by simp [rd_T87, List.getD, hjl]
      rw [Pa.kindlingref02_Find.l0, if_pos (by omega), if_pos (by omega), e, if_neg (hn j (by omega)), Hf.w64_of (by omega)]
      exact ih (j + 1) (by omega) m (by omega)
  exact go k 0 (by omega) _ (by omega)
theorem find_no (l : List S87) (a : Int) (hl : l.length ≤ 1000000000) (hn : ∀ o ∈ l, o.f0 ≠ a) : Pa.kindlingref02_Find.f (l.length + 1) l a = some (-1) := by
  have go : ∀ d j, j + d = l.length → ∀ m, d < m → Pa.kindlingref02_Find.l0 m l a (j : Int) = some (-1) := by
    intro d
    induction d with
    | zero =>
      intro j hj m hm
      obtain ⟨m, rfl⟩ : ∃ m', m = m' + 1 := ⟨m - 1, by omega⟩
      rw [Pa.kindlingref02_Find.l0, if_neg (by omega)]
    | succ d ih =>
      intro j hj m hm
      obtain ⟨m, rfl⟩ : ∃ m', m = m' + 1 := ⟨m - 1, by omega⟩
      have hjl : j < l.length := by omega
      have e : rd_T87 l (j : Int) = l[j] := by simp [rd_T87, List.getD, hjl]
      rw [Pa.kindlingref02_Find.l0, if_pos (by omega), if_pos (by omega), e, if_neg (hn _ (List.getElem_mem hjl)), Hf.w64_of (by omega)]
      exact ih (j + 1) (by omega) m (by omega)
  exact go l.length 0 (by omega) _ (by omega)
theorem used_any (R : Ro w v l) (h : used (l.map P5.o) ≤ 1000000000) (W : World) (hb : Drawn0 w W) : Calls Try.prog 78 #[v] W fun e w' => e = .returned (.int .i64 (used (l.map P5.o) : Int)) ∧ Drawn0 W w' := by
  obtain ⟨A, c, rfl, hc, hC⟩ := R.reads
  exact Pa.kindlingref02_Used.calls _ A c _ _ W (Kd.C_below hC hb.below) hc (used_f _ h (by
    have : (l.map P5.o).length ≤ used (l.map P5.o) := by
      unfold used
      generalize l.map P5.o = q
      induction q with
      | nil => simp
      | cons a q ih => simp; omega
    omega))
end Go.Proofs.Ytjccaojlldkmpaa.Rm
/- The document's memory: New, Next, Free. -/
namespace Go.Proofs.Ytjccaojlldkmpaa.Rm
open Go.RowKit Go.Proofs.YtjccaojlldkmpaaW.PrintWords Go.Proofs.YtjccaojlldkmpaaW.PrintLast Go.Proofs.YtjccaojlldkmpaaW.PrintMore
open Mem (Fr)
open Pa (S87 k87 z87 rd_T87 at_T87 k87_mk)
set_option linter.unusedSimpArgs false
set_option linter.unusedVariables false
set_option maxRecDepth 100000
variable {S : Nat → Prop} {w w' W : World} {g n c : Nat} {vn vo v : Value} {rs : RS} {l : List P5}
theorem q_of {P : Program} {f : FuncId} {args : Array Value} {w : World} {n : Nat} {v : Value} (h : Calls P f args (w.drewN n) fun e w' => e = .returned v ∧ Drawn0 (w.drewN n) w') :
    Calls P f args (w.drewN n) fun e w'' => e = .returned v ∧ ∃ m, w'' = w.drewN m := Calls.quiet_of (h.mono fun _ _ ⟨he, hd⟩ => ⟨he, hd.out⟩)
theorem d0 (w : World) (n : Nat) : Drawn0 w (w.drewN n) := ⟨n, rfl⟩
theorem wr64 {n : Int} (h : -9223372036854775808 ≤ n ∧ n ≤ 9223372036854775807) : IntKind.i64.wrap n = n := by rw [IntKind.wrap_i64]; omega
theorem new_any (N : Int) (h : 64 ≤ N ∧ N ≤ 65536) (w : World) : Calls Try.prog 46 #[.int .i64 N] w fun e w' => e = .returned (.tuple #[.agg #[.int .i64 N, .int .i64 0, .slice none 0 0, .slice none 0 0], .bool true]) ∧ Below w.heap.size w w' := by
  have hu30 := Try.underlying30
  have d1 : decide (N < 64) = false := decide_eq_false (by omega)
  have d2 : decide (65536 < N) = false := decide_eq_false (by omega)
  go_enter Try.func46, Try.ntmps46
  go_wp2_with fail
  exact bodyPost_ret (results_ct rfl _ _ w.heap.size 30 #[.int .i64 N, .int .i64 0, .slice none 0 0, .slice none 0 0] (0, 0) _ rfl (blk_new _ _) Try.underlying30 rfl (by kernel_rfl)) rfl ⟨rfl, below_alloc (Below.refl _ _) _⟩
structure Fit (rs : RS) : Prop where
  u : used (rs.now.map P5.o) ≤ 65536
  ou : used (rs.old.map P5.o) ≤ 65536
  s : 0 ≤ rs.size ∧ rs.size ≤ 65536
  h : rs.half = 0 ∨ rs.half = 1
theorem Fit.hs (F : Fit rs) : 0 ≤ rs.half * rs.size ∧ rs.half * rs.size ≤ 65536 := by
  have := F.s
  rcases F.h with e | e <;> rw [e] <;> omega
def next (rs : RS) : Int := 1 + rs.half * rs.size + (used (rs.now.map P5.o) : Int)
def free (rs : RS) : Int := rs.size - (used (rs.now.map P5.o) : Int)
theorem next_any (L : Lies S w g vn vo rs) (F : Fit rs) : Calls Try.prog 61 #[.pointer (some ⟨g, 0, none⟩)] w fun e w' => e = .returned (.int .i64 (next rs)) ∧ Drawn0 w w' := by
  have c0 : w.cell? ⟨g, 0, none⟩ = some (.int .i64 rs.size) := (blk_cell L.blk 0).trans rfl
  have c1 : w.cell? ⟨g, 1, none⟩ = some (.int .i64 rs.half) := (blk_cell L.blk 1).trans rfl
  have c2 : w.cell? ⟨g, 2, none⟩ = some vn := (blk_cell L.blk 2).trans rfl
  have hu := F.u
  have hs := F.hs
  have hU := used_any L.now (by omega)
  have hu0 : 0 ≤ (used (rs.now.map P5.o) : Int) ∧ (used (rs.now.map P5.o) : Int) ≤ 65536 := by omega
  unfold next
  generalize (used (rs.now.map P5.o) : Int) = u at *
  generalize hm : rs.half * rs.size = m at *
  have w1 : IntKind.i64.wrap m = m := wr64 (by omega)
  have w2 : IntKind.i64.wrap (1 + m) = 1 + m := wr64 (by omega)
  have w3 : IntKind.i64.wrap (1 + m + u) = 1 + m + u := wr64 (by omega)
  go_enter Try.func61, Try.ntmps61
  go_wp2_with fail
  go_quiet (first | (go_at_call 78; (with_reducible exact q_of (hU _ (d0 _ _)))))
  go_wp2_with fail
  go_ret
  exact ⟨rfl, d0 _ _⟩
theorem free_any (L : Lies S w g vn vo rs) (F : Fit rs) : Calls Try.prog 62 #[.pointer (some ⟨g, 0, none⟩)] w fun e w' => e = .returned (.int .i64 (free rs)) ∧ Drawn0 w w' := by
  have c0 : w.cell? ⟨g, 0, none⟩ = some (.int .i64 rs.size) := (blk_cell L.blk 0).trans rfl
  have c2 : w.cell? ⟨g, 2, none⟩ = some vn := (blk_cell L.blk 2).trans rfl
  have hu := F.u
  have hs := F.s
  have hU := used_any L.now (by omega)
  have hu0 : 0 ≤ (used (rs.now.map P5.o) : Int) ∧ (used (rs.now.map P5.o) : Int) ≤ 65536 := by omega
  unfold free
  generalize (used (rs.now.map P5.o) : Int) = u at *
  have w3 : IntKind.i64.wrap (rs.size - u) = rs.size - u := wr64 (by omega)
  go_enter Try.func62, Try.ntmps62
  go_wp2_with fail
  go_quiet (first | (go_at_call 78; (with_reducible exact q_of (hU _ (d0 _ _)))))
  go_wp2_with fail
  go_ret
  exact ⟨rfl, d0 _ _⟩
/-- A row of words grows by append in a box's cell. -/
theorem info56 : (Try.prog.info? 56).map (fun i => (i.zero, i.size, i.bytes)) = some (some (.int .u64 0), 1, 8) := by kernel_rfl
end Go.Proofs.Ytjccaojlldkmpaa.Rm
/- The document's memory: Alloc. -/
namespace Go.Proofs.Ytjccaojlldkmpaa.Rm
open Go.RowKit Go.Proofs.YtjccaojlldkmpaaW.PrintWords Go.Proofs.YtjccaojlldkmpaaW.PrintLast Go.Proofs.YtjccaojlldkmpaaW.PrintMore
open Mem (Fr)
open Hf (rightB right_parts)
open Pa
set_option linter.unusedSimpArgs false
set_option linter.unusedVariables false
set_option maxRecDepth 100000
variable {S : Nat → Prop} {w w' W : World} {g c : Nat} {vn vo v : Value} {rs : RS} {l : List P5}
theorem rright_f (n : Nat) (k s t : Int) : kindlingref02_Right.f (n + 2) k s t = some (rightB k s t) := by
  have hbad : kindlingref02_Right.j0 (n + 2) k s t true = some false := by simp only [kindlingref02_Right.j0, if_true]
  have no : ¬ (1 ≤ k ∧ k ≤ 5 ∧ 0 ≤ s ∧ s ≤ 16384 ∧ 0 ≤ t ∧ t ≤ s) → rightB k s t = false := fun h => by
    by_cases e : rightB k s t = true
    · exact absurd (right_parts e) h
    · exact Bool.eq_false_iff.2 e
  unfold kindlingref02_Right.f
  by_cases h1 : k < 1
  · rw [if_pos h1, hbad, no (by omega)]
  rw [if_neg h1]
  by_cases h2 : k > 5
  · rw [if_pos h2, hbad, no (by omega)]
  rw [if_neg h2]
  by_cases h3 : s < 0
  · rw [if_pos h3, hbad, no (by omega)]
  rw [if_neg h3]
  by_cases h4 : s > 16384
  · rw [if_pos h4, hbad, no (by omega)]
  rw [if_neg h4]
  by_cases h5 : t < 0
  · rw [if_pos h5, hbad, no (by omega)]
  rw [if_neg h5]
  by_cases h6 : t > s
  · rw [decide_eq_true h6, hbad, no (by omega)]
  rw [decide_eq_false h6]
  unfold rightB
  rw [if_neg (show ¬ (s < 0 ∨ s > 16384 ∨ t < 0 ∨ t > s) by omega)]
  simp only [kindlingref02_Right.j0]
  rw [if_neg (by decide)]
  by_cases k5 : k = 5
  · rw [if_pos k5, if_neg (by omega), if_neg (by omega), if_neg (by omega), k5]; rfl
  rw [if_neg k5]
  by_cases s0 : s = 0
  · rw [if_pos s0]
    simp only [kindlingref02_Right.j1, if_true]
    subst s0
    by_cases k1 : k = 1 ∨ k = 3
    · rw [if_pos k1]; rfl
    · rw [if_neg k1]
      by_cases k2 : k = 2
      · rw [if_pos k2]; rfl
      · rw [if_neg k2, if_pos (by omega)]; rfl
  rw [if_neg s0]
  have hs : decide (0 < s) = true := decide_eq_true (by omega)
  by_cases k2 : k = 2
  · rw [if_pos k2, if_neg (show ¬ (k = 1 ∨ k = 3) by omega), if_pos k2]
    simp only [kindlingref02_Right.j1]
    by_cases s1 : s = 1
    · rw [if_neg (by simp [s1]), if_neg (by omega), s1]; rfl
    · rw [if_pos (by simpa using s1), beq_eq_false_iff_ne.2 s1, Bool.false_and]
  rw [if_neg k2]
  simp only [kindlingref02_Right.j1]
  rw [if_neg (by decide)]
  by_cases k4 : k = 4
  · rw [if_pos k4, if_neg (show ¬ (k = 1 ∨ k = 3) by omega), if_neg k2, if_pos k4, hs, Bool.true_and]
  · rw [if_neg k4, if_pos (show k = 1 ∨ k = 3 by omega), hs, Bool.true_and]
theorem right76 (k s t : Int) (w : World) : Calls Try.prog 76 #[.int .i64 k, .int .i64 s, .int .i64 t] w fun e w' => e = .returned (.bool (rightB k s t)) ∧ Drawn0 w w' :=
  Pa.kindlingref02_Right.calls 2 k s t _ w (rright_f 0 k s t)
/-- The words of a new object. -/
def ini (n q : Nat) : List Int := List.replicate q 1 ++ List.replicate (n - q) 0
theorem ini_len (n q : Nat) (h : q ≤ n) : (ini n q).length = n := by simp [ini]; omega
theorem ini_step (n q k : Nat) (h : q ≤ n) (hk : k < n) : (ini n q).take (k + 1) = (ini n q).take k ++ [if k < q then 1 else 0] := by
  have hl : k < (List.replicate q (1 : Int) ++ List.replicate (n - q) 0).length := by simp; omega
  unfold ini
  rw [List.take_succ_eq_append_getElem hl]
  congr 2
  by_cases hq : k < q
  · rw [if_pos hq, List.getElem_append_left (by simpa using hq), List.getElem_replicate]
  · rw [if_neg hq, List.getElem_append_right (by simpa using hq), List.getElem_replicate]
def newP (rs : RS) (k : Int) (n q : Nat) (v : Value) : P5 := ⟨⟨next rs, k, q, ini n q, 0⟩, v⟩
/-- One object more. -/
theorem Lies.grow (L : Lies S w g vn vo rs) {w6 w7 : World} (hb : Below w.heap.size w w6) {vn' : Value} {p : P5} (hR : kP.R 87 w7 0 (fun _ => True) vn' (rs.now ++ [p])) (hg : w6.grownBy w7 vn.ownBlock) (hat : vn'.ownBlock = vn.ownBlock ∨ ∃ b, vn'.ownBlock = some b ∧ w6.heap.size ≤ b)
    (hp : ∀ k, p.v.ownBlock = some k → w.heap.size ≤ k) : Lies (fun k => S k ∨ w.heap.size ≤ k) (w7.setCell ⟨g, 2, none⟩ vn') g vn' vo { rs with now := rs.now ++ [p] } ∧ Fr S w (w7.setCell ⟨g, 2, none⟩ vn') := by
  have L6 := L.keep (T := fun _ => False) (Fr.of_below hb) (fun _ _ h => h)
  have hgv : some g ≠ vn.ownBlock := Kd.R_ne (show kP.R 87 w6 0 (fun _ => True) vn rs.now from L6.now) L6.blk (by decide)
  have hb7 := blk_grown L6.blk hg hgv
  have fr : Fr (fun k => k = g ∨ vn.ownBlock = some k) w6 (w7.setCell ⟨g, 2, none⟩ vn') := (Fr.of_grown hg (fun k hk => .inr hk)).trans (Fr.of_set w7 ⟨g, 2, none⟩ _ (.inl rfl))
  refine ⟨⟨blk_put hb7 2 _ rfl, ?_, ?_, ?_, ?_, .inl L.sg, ?_, fun k hk => .inl (L.so k hk), ?_⟩, (Fr.of_below hb).trans (fr.mono (fun k _ h => ?_))⟩
  · exact Kd.R_set hR hb7 (by intro q hq; simp [kP] at hq; omega) 2 _
  · refine L6.old.keep fr (fun k hk h => ?_) (fun q hq k hk h => ?_)
    · rcases h with rfl | h
      · obtain ⟨c1, h1⟩ := L6.old.typed _ hk
        rw [L6.blk] at h1
        cases h1
      · exact L.ap k h hk
    · obtain ⟨c1, h1⟩ := L6.old.typed_row q hq k hk
      rcases h with rfl | h
      · rw [L6.blk] at h1
        cases h1
      · obtain ⟨c2, h2⟩ := L6.now.typed k h
        rw [h1] at h2
        cases h2
  · intro k hk e
    rcases hat with h | ⟨b, h, hbb⟩
    · exact L.ap k (h ▸ hk) e
    · rw [h] at hk
      cases hk
      have := L6.old.lt _ e
      omega
  · have hpd := L.pd
    unfold Apart at hpd ⊢
    show List.Pairwise _ ((rs.now ++ [p]) ++ rs.old)
    rw [List.append_assoc, List.singleton_append]
    rw [List.pairwise_append] at hpd ⊢
    obtain ⟨q1, q2, q3⟩ := hpd
    have hlo : ∀ q ∈ rs.now, ∀ k, q.v.ownBlock = some k → k < w.heap.size := L.now.lt_row
    have hoo : ∀ q ∈ rs.old, ∀ k, q.v.ownBlock = some k → k < w.heap.size := L.old.lt_row
    refine ⟨q1, List.pairwise_cons.2 ⟨fun b hb k hk e => ?_, q2⟩, fun a ha b hb k hk e => ?_⟩
    · have := hp k hk
      have := hoo b hb k e
      omega
    · rcases List.mem_cons.1 hb with rfl | hb
      · have := hp k e
        have := hlo a ha k hk
        omega
      · exact q3 a ha b hb k hk e
  · intro k hk
    rcases hat with h | ⟨b, h, hbb⟩
    · exact .inl (L.sn k (h ▸ hk))
    · rw [h] at hk
      cases hk
      exact .inr (Nat.le_trans hb.size hbb)
  · intro q hq k hk
    have hq2 : q ∈ (rs.now ++ [p]) ++ rs.old := hq
    rw [List.append_assoc, List.mem_append, List.singleton_append, List.mem_cons] at hq2
    rcases hq2 with h | rfl | h
    · exact .inl (L.sw q (List.mem_append_left _ h) k hk)
    · exact .inr (hp k hk)
    · exact .inl (L.sw q (List.mem_append_right _ h) k hk)
  · rcases h with rfl | h
    · exact L.sg
    · exact L.sn k h
theorem info87 : (Try.prog.info? 87).map (fun i => (i.zero, i.size, i.bytes)) = some (some (.agg #[.int .i64 0, .int .i64 0, .int .i64 0, .slice none 0 0, .int .i64 0]), 5, 56) := by kernel_rfl
set_option maxHeartbeats 4000000 in
theorem alloc_any (L : Lies S w g vn vo rs) (F : Fit rs) (k : Int) (n q : Nat) (hr : rightB k n q = true) (hfree : (n : Int) < free rs) (hlen : rs.now.length ≤ 65536) :
    Calls Try.prog 47 #[.pointer (some ⟨g, 0, none⟩), .int .i64 k, .int .i64 n, .int .i64 q] w fun e w' => e = .returned (.tuple #[.int .i64 (next rs), .int .i64 0]) ∧
      ∃ vn' v, Lies (fun k => S k ∨ w.heap.size ≤ k) w' g vn' vo { rs with now := rs.now ++ [newP rs k n q v] } ∧ Fr S w w' := by
  have hu87 := Try.underlying87
  have hu28 := Try.underlying28
  have hu32 := Try.underlying32
  obtain ⟨p1, p2, p3, p4, p5, p6⟩ := right_parts hr
  have hR := fun W => right76 k n q W
  rw [hr] at hR
  have hN := fun W (hd : Drawn0 w W) => next_any (L.drawn hd) F
  have hF := fun W (hd : Drawn0 w W) => free_any (L.drawn hd) F
  have hs := F.s
  have hh := F.hs
  have hu := F.u
  have hfr : free rs ≤ 65536 := by unfold free; omega
  obtain ⟨fr, hfre⟩ : ∃ fr, free rs = fr := ⟨_, rfl⟩
  obtain ⟨nx, hnx⟩ : ∃ nx, next rs = nx := ⟨_, rfl⟩
  have hnxb : 1 ≤ nx ∧ nx ≤ 200000 := by rw [← hnx]; unfold next; omega
  rw [hfre] at hF hfree hfr
  rw [hnx] at hN
  have t1 : decide ((n : Int) ≥ fr) = false := decide_eq_false (by omega)
  have hd : Drawn0 w w := ⟨0, rfl⟩
  have hfre' := Aside0.mk hfre
  have hnx' := Aside0.mk hnx
  clear hfre hnx
  go_enter Try.func47, Try.ntmps47
  go_wp2_with (first
    | (go_at_call 76; (with_reducible refine (hR _).mono ?_); rintro e w5 ⟨rfl, hd5⟩; replace hd := Mem.drawn_trans hd hd5)
    | (go_at_call 62; (with_reducible refine (hF _ hd).mono ?_); rintro e w5 ⟨rfl, hd5⟩; replace hd := Mem.drawn_trans hd hd5)
    | (go_at_call 61; (with_reducible refine (hN _ hd).mono ?_); rintro e w5 ⟨rfl, hd5⟩; replace hd := Mem.drawn_trans hd hd5))
  have hb0 : (w5.alloc (.cells #[.int .i64 nx, .int .i64 k, .int .i64 q, .slice none 0 0, .int .i64 0] 87)).heap[w5.heap.size]? = some (.cells #[.int .i64 nx, .int .i64 k, .int .i64 q, .slice none 0 0, .int .i64 0] 87 (0, 0)) := blk_new _ _
  have hB0 : Below w5.heap.size w5 (w5.alloc (.cells #[.int .i64 nx, .int .i64 k, .int .i64 q, .slice none 0 0, .int .i64 0] 87)) := below_alloc (Below.refl _ _) _
  have hd05 : Drawn0 w w5 := hd
  generalize w5.alloc (.cells #[.int .i64 nx, .int .i64 k, .int .i64 q, .slice none 0 0, .int .i64 0] 87) = w6 at hb0 hB0 ⊢
  clear hR hF hN t1 hd5 hd hu32
  go_loopw [11] (fun i wr => ∃ j : Nat, j ≤ n ∧ i = .int .i64 (j : Int) ∧ ∃ A3 c3, wr.heap[w5.heap.size]? = some (.cells #[.int .i64 nx, .int .i64 k, .int .i64 q, .slice A3 j c3, .int .i64 0] 87 (0, 0)) ∧ (Kd.int .u64).R 56 wr w5.heap.size (fun _ => True) (.slice A3 j c3) ((ini n q).take j) ∧ Below w5.heap.size w5 wr) (fun i _ => n - (intOf i).toNat)
  case atStart => exact ⟨0, Nat.zero_le _, rfl, none, 0, hb0, by rw [List.take_zero]; exact Kd.R_nil _ _ _ _ _, hB0⟩
  case round =>
    clear hb0 hB0
    obtain ⟨j, hj, rfl, A3, c3, hbr, hR3, hBr⟩ := hrel
    by_cases hlt : j < n
    · have t1 : decide ((j : Int) < (n : Int)) = true := decide_eq_true (by omega)
      have e3 : wr.cell? ⟨w5.heap.size, 3, none⟩ = some (.slice A3 j c3) := (blk_cell hbr 3).trans rfl
      have hst := ini_step n q j (by omega) hlt
      have hlen : ((ini n q).take j).length = j := by rw [List.length_take, ini_len n q (by omega)]; omega
      have hst' := Aside0.mk hst
      have hlen' := Aside0.mk hlen
      clear hst hlen
      by_cases hq : j < q
      · have t2 : decide ((j : Int) < (q : Int)) = true := decide_eq_true (by omega)
        go_wp2_with (first
          | ((with_reducible refine gate_builtin (b := .append) (xs := #[.tmp 35, .tmp 36]) rfl ?_); at_builtin; refine Kd.R_append (Kd.int .u64) (w0 := wr) w5.heap.size rfl (.tmp 35) (.tmp 36) 32 56 (.int .u64 0) 8 rfl Try.underlying32 info56 rfl (by decide) (by omega) (.slice A3 j c3) ((ini n q).take j) 1 [.int .u64 1] (fun _ => True) (fun _ => False) rfl rfl rfl (fun _ hk => hk.elim) (fun _ _ => trivial) hR3 (Below.refl _ _) hBr.size (by rw [hlen'.out]; omega) ?_; intro v7 w7 ho7 hb7' hg7 hat7
             have hb7 := blk_grown hbr hg7 (Kd.R_ne hR3 hbr (by decide))
             have hB7 := hBr.grown hg7 hBr.size (fun k hk => Kd.R_base hR3 k hk)
             obtain ⟨A7, c7, rfl⟩ := Kd.R_slice ho7
             have hl7 : ((ini n q).take j ++ [(1 : Int)]).length = j + 1 := by rw [List.length_append, hlen'.out]; rfl
             rw [hl7] at ho7 ⊢
             have e7 : w7.cell? ⟨w5.heap.size, 3, none⟩ = some (.slice A3 j c3) := (blk_cell hb7 3).trans rfl
             have z7 := blk_frozen hb7 3))
        go_roundw
        case rel =>
          refine ⟨j + 1, by omega, by simp, A7, c7, blk_put hb7 3 _ rfl, ?_, hB7.setCell (Nat.le_refl _) _⟩
          rw [hst'.out, if_pos hq]
          exact Kd.R_set ho7 hb7 (by intro p hp; simp [Kd.int, Kd.scalar] at hp; omega) 3 _
        case measure => simp [intOf]; omega
      · have t2 : decide ((j : Int) < (q : Int)) = false := decide_eq_false (by omega)
        go_wp2_with (first
          | ((with_reducible refine gate_builtin (b := .append) (xs := #[.tmp 40, .tmp 41]) rfl ?_); at_builtin; refine Kd.R_append (Kd.int .u64) (w0 := wr) w5.heap.size rfl (.tmp 40) (.tmp 41) 32 56 (.int .u64 0) 8 rfl Try.underlying32 info56 rfl (by decide) (by omega) (.slice A3 j c3) ((ini n q).take j) 0 [.int .u64 0] (fun _ => True) (fun _ => False) rfl rfl rfl (fun _ hk => hk.elim) (fun _ _ => trivial) hR3 (Below.refl _ _) hBr.size (by rw [hlen'.out]; omega) ?_; intro v7 w7 ho7 hb7' hg7 hat7
             have hb7 := blk_grown hbr hg7 (Kd.R_ne hR3 hbr (by decide))
             have hB7 := hBr.grown hg7 hBr.size (fun k hk => Kd.R_base hR3 k hk)
             obtain ⟨A7, c7, rfl⟩ := Kd.R_slice ho7
             have hl7 : ((ini n q).take j ++ [(0 : Int)]).length = j + 1 := by rw [List.length_append, hlen'.out]; rfl
             rw [hl7] at ho7 ⊢
             have e7 : w7.cell? ⟨w5.heap.size, 3, none⟩ = some (.slice A3 j c3) := (blk_cell hb7 3).trans rfl
             have z7 := blk_frozen hb7 3))
        go_roundw
        case rel =>
          refine ⟨j + 1, by omega, by simp, A7, c7, blk_put hb7 3 _ rfl, ?_, hB7.setCell (Nat.le_refl _) _⟩
          rw [hst'.out, if_neg hq]
          exact Kd.R_set ho7 hb7 (by intro p hp; simp [Kd.int, Kd.scalar] at hp; omega) 3 _
        case measure => simp [intOf]; omega
    · obtain rfl : j = n := by omega
      have t1 : decide (((j : Nat) : Int) < (j : Int)) = false := decide_eq_false (by omega)
      go_wp2_with fail
      have L1 := L.drawn hd05
      have L2 := L1.keep (T := fun _ => False) (Fr.of_below hBr) (fun _ _ h => h)
      have L3 := L2.drawn (d0 wr 1)
      have hb3 : wr.drew.heap[w5.heap.size]? = some (.cells #[.int .i64 nx, .int .i64 k, .int .i64 q, .slice A3 j c3, .int .i64 0] 87 (0, 0)) := hbr
      have hR3' := Kd.R_drew hR3
      have e0 : wr.drew.cell? ⟨w5.heap.size, 0, none⟩ = some (.int .i64 nx) := (blk_cell hb3 0).trans rfl
      have e1 : wr.drew.cell? ⟨w5.heap.size, 1, none⟩ = some (.int .i64 k) := (blk_cell hb3 1).trans rfl
      have e2 : wr.drew.cell? ⟨w5.heap.size, 2, none⟩ = some (.int .i64 q) := (blk_cell hb3 2).trans rfl
      have e3 : wr.drew.cell? ⟨w5.heap.size, 3, none⟩ = some (.slice A3 j c3) := (blk_cell hb3 3).trans rfl
      have e4 : wr.drew.cell? ⟨w5.heap.size, 4, none⟩ = some (.int .i64 0) := (blk_cell hb3 4).trans rfl
      have hblk := L3.blk
      have q2 : wr.drew.cell? ⟨g, 2, none⟩ = some vn := (blk_cell hblk 2).trans rfl
      have z2 := blk_frozen hblk 2
      have q2a : (wr.alloc (.cells #[.int .i64 nx, .int .i64 k, .int .i64 q, .slice A3 j c3, .int .i64 0] 87)).cell? ⟨g, 2, none⟩ = some vn := (blk_cell (blk_alloc L2.blk _) 2).trans rfl
      have hnow : kP.R 87 wr.drew 0 (fun _ => True) vn rs.now := L3.now
      have hs05 : w.heap.size ≤ w5.heap.size := hd05.below.size
      have hMP : kP.M wr.drew 0 (fun i => some i ≠ vn.ownBlock) (⟨⟨nx, k, q, (ini j q).take j, 0⟩, .slice A3 j c3⟩ : P5) [.int .i64 nx, .int .i64 k, .int .i64 q, .slice A3 j c3, .int .i64 0] :=
        ⟨rfl, Kd.R_lower (Kd.R_mono (Kd.R_bound hR3') (fun i hi e => by have := L.now.lt i e.symm; have := hi.2.1; omega)) (Nat.zero_le _)⟩
      have HNX := hnx'
      clear hfre' hnx' hbr L1
      go_region_law (first
        | (refine Kd.R_append_step (okp := fun i => some i ≠ vn.ownBlock) (ok := fun _ => True) (w0 := wr.drew) (W := wr.drew) (v := vn) (xs := rs.now) (p := (⟨⟨nx, k, q, (ini j q).take j, 0⟩, .slice A3 j c3⟩ : P5)) (cs := [.int .i64 nx, .int .i64 k, .int .i64 q, .slice A3 j c3, .int .i64 0]) kP 0 ?_ (.tmp 48) (.tmp 50) 28 87 (.agg #[.int .i64 0, .int .i64 0, .int .i64 0, .slice none 0 0, .int .i64 0]) 56 ?_ Try.underlying28 info87 ?_ ?_ ?_ ?_ ?_ ?_ ?_ ?_ ?_ ?_ ?_ ?_ ?_
           · rfl
           · rfl
           · rfl
           · exact (by decide)
           · omega
           · rfl
           · rfl
           · exact hMP
           · exact (fun _ hk => ⟨trivial, hk⟩)
           · exact (fun _ _ => trivial)
           · exact hnow
           · exact Below.refl 0 _
           · exact (Nat.zero_le _)
           · omega
           intro v7 w7 ho7 hb7' hg7 hat7
           obtain ⟨A7, c7, rfl⟩ := Kd.R_slice ho7
           obtain ⟨n7, hn7⟩ : ∃ n7 : Nat, (rs.now ++ [(⟨⟨nx, k, q, (ini j q).take j, 0⟩, .slice A3 j c3⟩ : P5)]).length = n7 := ⟨_, rfl⟩
           rw [hn7] at ho7 hat7 ⊢
           have hb7 := blk_grown hblk hg7 (Kd.R_ne hnow hblk (by decide))
           have hn7' := Aside0.mk hn7
           clear hn7
           have q7 : w7.cell? ⟨g, 2, none⟩ = some vn := (blk_cell hb7 2).trans rfl
           have z7 := blk_frozen hb7 2))
      all_goals
        have hb7b := blk_grown hb3 hg7 (fun e => by have := L.now.lt _ e.symm; omega)
        have hb8b := blk_far hb7b (p := ⟨g, 2, none⟩) (show w5.heap.size ≠ g from by have := blk_lt L.blk; omega) (.slice A7 n7 c7)
        have c80 := (blk_cell hb8b 0).trans rfl
        go_wp2_with fail
        go_ret2
        have hti : (ini j q).take j = ini j q := List.take_of_length_le (by rw [ini_len j q (by omega)]; exact Nat.le_refl _)
        rw [hti, ← HNX.out] at ho7
        rw [HNX.out]
        have hB6 : Below w.heap.size w wr.drew := (hd05.below.trans (hBr.mono hs05)).trans ((d0 wr 1).below.mono (by have := hBr.size; omega))
        obtain ⟨hl, hfr8⟩ := L.grow hB6 ho7 hg7 hat7 (fun k hk => by have := Kd.R_base hR3 k hk; omega)
        exact ⟨rfl, _, _, hl, hfr8⟩
end Go.Proofs.Ytjccaojlldkmpaa.Rm
/- The document's memory: Store. -/
namespace Go.Proofs.Ytjccaojlldkmpaa.Rm
open Go.RowKit Go.Proofs.YtjccaojlldkmpaaW.PrintWords Go.Proofs.YtjccaojlldkmpaaW.PrintLast Go.Proofs.YtjccaojlldkmpaaW.PrintMore
open Mem (Fr)
open Hf (rightB right_parts)
open Pa
set_option linter.unusedSimpArgs false
set_option linter.unusedVariables false
set_option maxRecDepth 100000
variable {S : Nat → Prop} {w w' W : World} {g c : Nat} {vn vo v : Value} {rs : RS} {l : List P5}
/-- Find, told of the place. -/
theorem find_at (R : Ro w v l) (hl : l.length ≤ 100000) (a : Int) (k : Nat) (hk : k < l.length) (ha : l[k].o.f0 = a) (hn : ∀ j, (hj : j < k) → (l[j]'(by omega)).o.f0 ≠ a) (W : World) (hd : Drawn0 w W) :
    Calls Try.prog 63 #[v, .int .i64 a] W fun e w' => e = .returned (.int .i64 (k : Int)) ∧ Drawn0 W w' := by
  obtain ⟨A, c, rfl, hc, hC⟩ := R.reads
  refine Pa.kindlingref02_Find.calls _ A c _ a _ W (Kd.C_below hC hd.below) hc (find_yes (l.map P5.o) a k (by simpa using hk) (by rw [List.length_map]; omega) (by simpa using ha) (fun j hj => by simpa using hn j hj))
theorem find_none (R : Ro w v l) (hl : l.length ≤ 100000) (a : Int) (hn : ∀ p ∈ l, p.o.f0 ≠ a) (W : World) (hd : Drawn0 w W) :
    Calls Try.prog 63 #[v, .int .i64 a] W fun e w' => e = .returned (.int .i64 (-1)) ∧ Drawn0 W w' := by
  obtain ⟨A, c, rfl, hc, hC⟩ := R.reads
  refine Pa.kindlingref02_Find.calls _ A c _ a _ W (Kd.C_below hC hd.below) hc (find_no (l.map P5.o) a (by rw [List.length_map]; omega) (fun o ho => by
    obtain ⟨p, hp, rfl⟩ := List.mem_map.1 ho
    exact hn p hp))
/-- No two objects at one address. -/
def Alone (l : List P5) : Prop := ∀ i j, (hi : i < l.length) → (hj : j < l.length) → l[i].o.f0 = l[j].o.f0 → i = j
/-- A word of an object in use is turned. -/
theorem Lies.word (L : Lies S w g vn vo rs) (k : Nat) (hk : k < rs.now.length) {q c : Nat} (hv : rs.now[k].v = .slice (some ⟨q, 0, none⟩) rs.now[k].o.f3.length c) (i : Nat) (x : Int) :
    Lies S (w.setCell ⟨q, i, none⟩ (.int .u64 x)) g vn vo { rs with now := rs.now.set k ⟨{ rs.now[k].o with f3 := rs.now[k].o.f3.set i x }, rs.now[k].v⟩ } ∧ Fr S w (w.setCell ⟨q, i, none⟩ (.int .u64 x)) := by
  have hkm : rs.now[k] ∈ rs.now := List.getElem_mem hk
  have hob : rs.now[k].v.ownBlock = some q := by rw [hv]; rfl
  obtain ⟨c1, ht⟩ := L.now.typed_row _ hkm q hob
  have hpd := L.pd
  unfold Apart at hpd
  obtain ⟨q1, q2, q3⟩ := List.pairwise_append.1 hpd
  have hd : ∀ j, (hj : j < rs.now.length) → j ≠ k → rs.now[j].v.ownBlock ≠ some q := fun j hj hne e => by
    rcases Nat.lt_or_gt_of_ne hne with h | h
    · exact List.pairwise_iff_getElem.1 q1 j k hj hk h q e hob
    · exact List.pairwise_iff_getElem.1 q1 k j hk hj h q hob e
  have hvset : ∀ p, p ∈ rs.now.set k ⟨{ rs.now[k].o with f3 := rs.now[k].o.f3.set i x }, rs.now[k].v⟩ → ∃ p', p' ∈ rs.now ∧ p'.v = p.v := fun p hp => by
    rcases List.mem_or_eq_of_mem_set hp with h | rfl
    · exact ⟨p, h, rfl⟩
    · exact ⟨rs.now[k], hkm, rfl⟩
  refine ⟨⟨?_, L.now.word k hk hv hd i x, ?_, L.ap, ?_, L.sg, L.sn, L.so, ?_⟩, Fr.of_set _ _ _ (L.sw _ (List.mem_append_left _ hkm) q hob)⟩
  · exact blk_far L.blk (p := ⟨q, i, none⟩) (fun e => by
      have e' : g = q := e
      have := L.blk
      rw [e', ht] at this
      cases this) _
  · refine L.old.keep (T := fun b => b = q) (Fr.of_set _ ⟨q, i, none⟩ _ rfl) (fun b hb e => ?_) (fun p hp b hb e => ?_)
    · obtain ⟨c2, h2⟩ := L.old.typed b hb
      rw [e, ht] at h2
      cases h2
    · exact q3 _ hkm p hp q hob (e ▸ hb)
  · show Apart (rs.now.set k _ ++ rs.old)
    unfold Apart
    refine List.pairwise_append.2 ⟨?_, q2, fun a ha b hb => ?_⟩
    · refine List.pairwise_iff_getElem.2 (fun i1 j1 hi hj hij => ?_)
      rw [List.length_set] at hi hj
      have h := List.pairwise_iff_getElem.1 q1 i1 j1 hi hj hij
      have e1 : ∀ m (hm : m < rs.now.length), ((rs.now.set k ⟨{ rs.now[k].o with f3 := rs.now[k].o.f3.set i x }, rs.now[k].v⟩)[m]'(by rw [List.length_set]; exact hm)).v = rs.now[m].v := fun m hm => by
        rw [List.getElem_set]
        split
        · rename_i e
          subst e
          rfl
        · rfl
      intro b hb
      rw [e1 _ hi] at hb
      rw [e1 _ hj]
      exact h b hb
    · obtain ⟨a', ha', e⟩ := hvset a ha
      rw [← e]
      exact q3 a' ha' b hb
  · intro p hp b hb
    rcases List.mem_append.1 hp with h | h
    · obtain ⟨a', ha', e⟩ := hvset p h
      exact L.sw a' (List.mem_append_left _ ha') b (e ▸ hb)
    · exact L.sw p (List.mem_append_right _ h) b hb
set_option maxHeartbeats 4000000 in
theorem store_any (L : Lies S w g vn vo rs) (hl : rs.now.length ≤ 65536) (k : Nat) (hk : k < rs.now.length) (hA : Alone rs.now) (a : Int) (ha : rs.now[k].o.f0 = a) (i : Nat) (hi : i < rs.now[k].o.f3.length) (hlen : rs.now[k].o.f3.length ≤ 65536) (x : Int) :
    Calls Try.prog 48 #[.pointer (some ⟨g, 0, none⟩), .int .i64 a, .int .i64 (i : Int), .int .u64 x] w fun e w' => e = .returned (.int .i64 0) ∧
      Lies S w' g vn vo { rs with now := rs.now.set k ⟨{ rs.now[k].o with f3 := rs.now[k].o.f3.set i x }, rs.now[k].v⟩ } ∧ Fr S w w' := by
  have hF := find_at L.now (by omega) a k hk ha (fun j hj e => by
    have := hA j k (by omega) hk (e.trans ha.symm)
    omega)
  obtain ⟨qn, cn, cells, rfl, hbn, hcell⟩ := L.now.shape (by omega)
  obtain ⟨n, hn⟩ : ∃ n, rs.now[k].o.f3.length = n := ⟨_, rfl⟩
  obtain ⟨q, c, hv, -, -, cw, hbw⟩ := Kd.R_form (L.now.row k hk) (by omega)
  have L1 := fun m => (L.drawn (d0 w m)).word k hk hv i x
  have e3 := hcell k hk 3 _ rfl
  have c2 : w.cell? ⟨g, 2, none⟩ = some (.slice (some ⟨qn, 0, none⟩) rs.now.length cn) := (blk_cell L.blk 2).trans rfl
  have c3 : w.cell? ⟨qn, k * 5 + 3, none⟩ = some (.slice (some ⟨q, 0, none⟩) n c) := (blk_cell hbn _).trans (e3.trans (by rw [hv, hn]))
  obtain ⟨cc, hcc⟩ : ∃ v, w.cell? ⟨q, i, none⟩ = some v := by
    have h := (Kd.R_cell (enc := Value.int .u64) (h1 := fun _ => rfl) (0 : Int) (by have := L.now.row k hk; rw [hv] at this; exact this) (i : Int) (by omega) (by omega)).1
    rw [Int.toNat_natCast] at h
    exact ⟨_, h⟩
  have z3 := blk_frozen hbw i
  have d1 : decide ((k : Int) < 0) = false := decide_eq_false (by omega)
  have d2 : decide ((i : Int) < 0) = false := decide_eq_false (by omega)
  have d3 : decide ((i : Int) ≥ (n : Int)) = false := decide_eq_false (by omega)
  have d3n : decide (n ≤ i) = false := decide_eq_false (by omega)
  have e4 : (n ≤ i) = False := eq_false (by omega)
  have e5 : (i < n) = True := eq_true (by omega)
  have d4 : decide (0 ≤ (k : Int)) = true := decide_eq_true (by omega)
  have d5 : decide ((k : Int) < (rs.now.length : Int)) = true := decide_eq_true (by omega)
  have d6 : decide (0 ≤ (i : Int)) = true := decide_eq_true (by omega)
  have d7 : decide ((i : Int) < (n : Int)) = true := decide_eq_true (by omega)
  have hd : Drawn0 w w := ⟨0, rfl⟩
  have hn' := Aside0.mk hn
  clear hn e3 hcell ha
  go_enter Try.func48, Try.ntmps48
  go_wp2_with (first
    | (go_at_call 63; (with_reducible refine (hF _ hd).mono ?_); rintro e w5 ⟨rfl, hd5⟩; obtain ⟨m, rfl⟩ := hd5.out))
  go_ret
  exact ⟨rfl, (L1 m).1, (Fr.of_drawn (d0 w m)).trans (L1 m).2⟩
end Go.Proofs.Ytjccaojlldkmpaa.Rm
/- The document's memory told by the same lists of objects as the program's. -/
namespace Go.Proofs.Ytjccaojlldkmpaa.Rm
open Go.RowKit Go.Proofs.YtjccaojlldkmpaaW.PrintWords Go.Proofs.YtjccaojlldkmpaaW.PrintLast Go.Proofs.YtjccaojlldkmpaaW.PrintMore
open Mem (Fr O flat pos heads pos_all pos_inj pos_succ pos_head flat_len len_le flat_append flat_one row_length newO putO putO_length putO_get pos_lens lens_put putO_lens_len flat_new newO_len)
open Hf (rightB right_parts)
open Pa
set_option linter.unusedSimpArgs false
set_option linter.unusedVariables false
set_option maxRecDepth 100000
variable {S : Nat → Prop} {w w' W : World} {g c : Nat} {vn vo v : Value} {rs : RS} {l : List P5}
/-- Objects as the document lists them. -/
def ros (f : Int) (os : List O) (tz : Nat → Int) : List S87 := os.mapIdx fun i o => ⟨f + (pos os i : Int), o.kind, o.tag, o.fs, tz i⟩
def nowhere : Nat → Int := fun _ => 0
theorem ros_length (f : Int) (os : List O) (tz : Nat → Int) : (ros f os tz).length = os.length := by simp [ros]
theorem ros_get (f : Int) (os : List O) (tz : Nat → Int) (i : Nat) (h : i < (ros f os tz).length) (h' : i < os.length) : (ros f os tz)[i] = ⟨f + (pos os i : Int), os[i].kind, os[i].tag, os[i].fs, tz i⟩ := by simp [ros]
theorem used_ros (f : Int) (os : List O) (tz : Nat → Int) : used (ros f os tz) = (flat os).length := by
  rw [flat_len]
  unfold used
  congr 1
  apply List.ext_getElem
  · simp [ros]
  · intro i h1 h2
    have hi : i < os.length := by simpa using h2
    simp only [List.getElem_map]
    rw [ros_get f os tz i (by rw [ros_length]; exact hi) hi]
theorem pos_le (os : List O) (e : O) (i : Nat) (h : i ≤ os.length) : pos (os ++ [e]) i = pos os i := by
  unfold pos
  rw [List.take_append_of_le_length h]
theorem ros_snoc (f : Int) (os : List O) (e : O) (tz : Nat → Int) : ros f (os ++ [e]) tz = ros f os tz ++ [⟨f + ((flat os).length : Int), e.kind, e.tag, e.fs, tz os.length⟩] := by
  apply List.ext_getElem
  · simp [ros]
  · intro i h1 h2
    have hi : i < (os ++ [e]).length := by rw [ros_length] at h1; exact h1
    rw [ros_get f _ tz i h1 hi]
    by_cases h : i < os.length
    · rw [List.getElem_append_left (show i < (ros f os tz).length by rw [ros_length]; exact h), ros_get f os tz i _ h, pos_le os e i (by omega), List.getElem_append_left h]
    · have e2 : i = os.length := by simp at hi; omega
      subst e2
      rw [List.getElem_append_right (show (ros f os tz).length ≤ os.length by rw [ros_length]; exact Nat.le_refl _), pos_le os e _ (Nat.le_refl _), pos_all]
      simp [ros_length]
theorem ros_put (f : Int) (os : List O) (tz : Nat → Int) (k i : Nat) (x : Int) (hk : k < os.length) : ros f (putO os k i x) tz = (ros f os tz).set k ⟨f + (pos os k : Int), os[k].kind, os[k].tag, os[k].fs.set i x, tz k⟩ := by
  apply List.ext_getElem
  · rw [List.length_set, ros_length, ros_length, putO_length]
  · intro j h1 h2
    have hj : j < os.length := by rw [ros_length, putO_length] at h1; exact h1
    rw [ros_get f _ tz j h1 (by rw [putO_length]; exact hj), pos_lens (lens_put os k i x), putO_get os k i x j (by rw [putO_length]; exact hj) hj, List.getElem_set]
    by_cases e : k = j
    · subst e
      rw [if_pos rfl, if_pos rfl]
      rfl
    · rw [if_neg e, if_neg e, ros_get f os tz j _ hj]
structure DocL (S : Nat → Prop) (w : World) (g : Nat) (vn vo : Value) (rs : RS) (size half : Int) (os olds : List O) (tz : Nat → Int) : Prop where
  lies : Lies S w g vn vo rs
  sz : rs.size = size
  hf : rs.half = half
  now : rs.now.map P5.o = ros (1 + half * size) os nowhere
  old : rs.old.map P5.o = ros (1 + (1 - half) * size) olds tz
  bs : 64 ≤ size ∧ size ≤ 65536
  bh : half = 0 ∨ half = 1
  fit : ((flat os).length : Int) ≤ size
  ofit : ((flat olds).length : Int) ≤ size
/-- Block g is the document's memory: its size, the half in use, the objects, the old ones and where they went. -/
def Doc (S : Nat → Prop) (w : World) (g : Nat) (size half : Int) (os olds : List O) (tz : Nat → Int) : Prop := ∃ vn vo rs, DocL S w g vn vo rs size half os olds tz
variable {size half : Int} {os olds : List O} {tz : Nat → Int}
theorem DocL.fits (D : DocL S w g vn vo rs size half os olds tz) : Fit rs where
  u := by rw [D.now, used_ros]; have := D.fit; have := D.bs; omega
  ou := by rw [D.old, used_ros]; have := D.ofit; have := D.bs; omega
  s := by rw [D.sz]; have := D.bs; omega
  h := by rw [D.hf]; exact D.bh
theorem DocL.len (D : DocL S w g vn vo rs size half os olds tz) : rs.now.length = os.length := by
  have := congrArg List.length D.now
  rwa [List.length_map, ros_length] at this
theorem DocL.olen (D : DocL S w g vn vo rs size half os olds tz) : rs.old.length = olds.length := by
  have := congrArg List.length D.old
  rwa [List.length_map, ros_length] at this
theorem DocL.at (D : DocL S w g vn vo rs size half os olds tz) (i : Nat) (h : i < rs.now.length) (h' : i < os.length) : rs.now[i].o = ⟨1 + half * size + (pos os i : Int), os[i].kind, os[i].tag, os[i].fs, 0⟩ := by
  have e : (rs.now.map P5.o)[i]? = (ros (1 + half * size) os nowhere)[i]? := by rw [D.now]
  rw [List.getElem?_eq_getElem (by simpa using h), List.getElem?_eq_getElem (by rw [ros_length]; exact h'), List.getElem_map, ros_get _ _ _ i _ h'] at e
  exact Option.some.inj e
theorem DocL.oat (D : DocL S w g vn vo rs size half os olds tz) (i : Nat) (h : i < rs.old.length) (h' : i < olds.length) : rs.old[i].o = ⟨1 + (1 - half) * size + (pos olds i : Int), olds[i].kind, olds[i].tag, olds[i].fs, tz i⟩ := by
  have e : (rs.old.map P5.o)[i]? = (ros (1 + (1 - half) * size) olds tz)[i]? := by rw [D.old]
  rw [List.getElem?_eq_getElem (by simpa using h), List.getElem?_eq_getElem (by rw [ros_length]; exact h'), List.getElem_map, ros_get _ _ _ i _ h'] at e
  exact Option.some.inj e
theorem DocL.alone (D : DocL S w g vn vo rs size half os olds tz) : Alone rs.now := fun i j hi hj e => by
  have hl := D.len
  rw [D.at i hi (by omega), D.at j hj (by omega)] at e
  exact pos_inj (os := os) (by omega) (by omega) (by have e' : (1 : Int) + half * size + (pos os i : Int) = 1 + half * size + (pos os j : Int) := e; omega)
theorem DocL.os_len (D : DocL S w g vn vo rs size half os olds tz) : os.length ≤ 65536 := by
  have := len_le os
  have := D.fit
  have := D.bs
  omega
theorem DocL.olds_len (D : DocL S w g vn vo rs size half os olds tz) : olds.length ≤ 65536 := by
  have := len_le olds
  have := D.ofit
  have := D.bs
  omega
theorem DocL.next (D : DocL S w g vn vo rs size half os olds tz) : next rs = 1 + half * size + ((flat os).length : Int) := by
  unfold Rm.next
  rw [D.now, used_ros, D.sz, D.hf]
theorem DocL.free (D : DocL S w g vn vo rs size half os olds tz) : free rs = size - ((flat os).length : Int) := by
  unfold Rm.free
  rw [D.now, used_ros, D.sz]
theorem Doc.keep (D : Doc S w g size half os olds tz) {T : Nat → Prop} (fr : Fr T w w') (hT : ∀ k, S k → ¬ T k) : Doc S w' g size half os olds tz := by
  obtain ⟨vn, vo, rs, D⟩ := D
  exact ⟨vn, vo, rs, { D with lies := D.lies.keep fr hT }⟩
theorem Doc.more (D : Doc S w g size half os olds tz) {T : Nat → Prop} (h : ∀ k, S k → T k) : Doc T w g size half os olds tz := by
  obtain ⟨vn, vo, rs, D⟩ := D
  exact ⟨vn, vo, rs, { D with lies := D.lies.more h }⟩
theorem Doc.bound (D : Doc S w g size half os olds tz) : Doc (fun k => S k ∧ k < w.heap.size) w g size half os olds tz := by
  obtain ⟨vn, vo, rs, D⟩ := D
  exact ⟨vn, vo, rs, { D with lies := D.lies.bound }⟩
theorem Doc.drawn (D : Doc S w g size half os olds tz) (hd : Drawn0 w w') : Doc S w' g size half os olds tz := D.keep (T := fun _ => False) (Fr.of_drawn hd) (fun _ _ h => h)
theorem Doc.below (D : Doc S w g size half os olds tz) (hb : Below w.heap.size w w') : Doc S w' g size half os olds tz := D.keep (T := fun _ => False) (Fr.of_below hb) (fun _ _ h => h)
/-! ### The calls -/
theorem Doc.alloc (D : Doc S w g size half os olds tz) (k : Int) (n q : Nat) (hr : rightB k n q = true) (hfree : ((flat os).length : Int) + n + 1 ≤ size) :
    Calls Try.prog 47 #[.pointer (some ⟨g, 0, none⟩), .int .i64 k, .int .i64 n, .int .i64 q] w fun e w' => e = .returned (.tuple #[.int .i64 (1 + half * size + ((flat os).length : Int)), .int .i64 0]) ∧
      Doc (fun k => S k ∨ w.heap.size ≤ k) w' g size half (os ++ [newO k n q]) olds tz ∧ Fr S w w' := by
  obtain ⟨vn, vo, rs, D⟩ := D
  obtain ⟨p1, p2, p3, p4, p5, p6⟩ := right_parts hr
  refine (alloc_any D.lies D.fits k n q hr (by rw [D.free]; omega) (by rw [D.len]; exact D.os_len)).mono ?_
  rintro e w' ⟨rfl, vn', v, hL, fr⟩
  refine ⟨by rw [D.next], ⟨vn', vo, _, hL, D.sz, D.hf, ?_, D.old, D.bs, D.bh, ?_, D.ofit⟩, fr⟩
  · show (rs.now ++ [newP rs k n q v]).map P5.o = _
    rw [List.map_append, D.now, ros_snoc]
    show _ ++ [(newP rs k n q v).o] = _
    unfold newP
    rw [D.next]
    rfl
  · rw [flat_new _ _ _ _ (by omega)]
    omega
theorem Doc.store (D : Doc S w g size half os olds tz) (k i : Nat) (x : Int) (hk : k < os.length) (hi : i < os[k].fs.length) :
    Calls Try.prog 48 #[.pointer (some ⟨g, 0, none⟩), .int .i64 (1 + half * size + (pos os k : Int)), .int .i64 (i : Int), .int .u64 x] w fun e w' => e = .returned (.int .i64 0) ∧
      Doc S w' g size half (putO os k i x) olds tz ∧ Fr S w w' := by
  obtain ⟨vn, vo, rs, D⟩ := D
  have hl := D.len
  have hkr : k < rs.now.length := by omega
  have e := D.at k hkr hk
  have hfs : rs.now[k].o.f3 = os[k].fs := by rw [e]
  have hpl := pos_head os k hk
  have hft := D.fit
  have hbs := D.bs
  refine (store_any D.lies (by rw [D.len]; exact D.os_len) k hkr D.alone _ (by rw [e]) i (by rw [hfs]; exact hi) (by rw [hfs]; omega) x).mono ?_
  rintro e2 w' ⟨rfl, hL, fr⟩
  refine ⟨rfl, ⟨vn, vo, _, hL, D.sz, D.hf, ?_, D.old, D.bs, D.bh, ?_, D.ofit⟩, fr⟩
  · show (rs.now.set k ⟨{ rs.now[k].o with f3 := rs.now[k].o.f3.set i x }, rs.now[k].v⟩).map P5.o = _
    rw [List.map_set, D.now, ros_put _ _ _ _ _ _ hk]
    congr 1
    show ({ rs.now[k].o with f3 := rs.now[k].o.f3.set i x } : S87) = _
    rw [e]
    rfl
  · rw [putO_lens_len]
    exact D.fit
theorem Doc.next (D : Doc S w g size half os olds tz) : Calls Try.prog 61 #[.pointer (some ⟨g, 0, none⟩)] w fun e w' => e = .returned (.int .i64 (1 + half * size + ((flat os).length : Int))) ∧ Drawn0 w w' := by
  obtain ⟨vn, vo, rs, D⟩ := D
  rw [← D.next]
  exact next_any D.lies D.fits
theorem Doc.free (D : Doc S w g size half os olds tz) : Calls Try.prog 62 #[.pointer (some ⟨g, 0, none⟩)] w fun e w' => e = .returned (.int .i64 (size - ((flat os).length : Int))) ∧ Drawn0 w w' := by
  obtain ⟨vn, vo, rs, D⟩ := D
  rw [← D.free]
  exact free_any D.lies D.fits
end Go.Proofs.Ytjccaojlldkmpaa.Rm
/- The document's memory, made of a list of objects. -/
namespace Go.Proofs.Ytjccaojlldkmpaa.Rm
open Go.RowKit Go.Proofs.YtjccaojlldkmpaaW.PrintWords Go.Proofs.YtjccaojlldkmpaaW.PrintLast Go.Proofs.YtjccaojlldkmpaaW.PrintMore
open Mem
open Hf (rightB right_parts)
open Pa (S71 k71 z71 rd_T71 at_T71 S87 k87)
set_option linter.unusedSimpArgs false
set_option linter.unusedVariables false
set_option maxRecDepth 100000
variable {S : Nat → Prop} {w w' W : World} {g c : Nat} {vn vo v : Value} {rs : RS} {l : List P5}
/-- The only memory of the document's in a run. -/
def OneD (w0 w : World) (g : Nat) (N : Int) (os : List O) : Prop := Below w0.heap.size w0 w ∧ Doc (fun k => w0.heap.size ≤ k) w g N 0 os [] nowhere
theorem OneD.drawn {w0 : World} {N : Int} {os : List O} (M : OneD w0 w g N os) (hd : Drawn0 w w') : OneD w0 w' g N os := ⟨below_step M.1 hd.below, M.2.drawn hd⟩
theorem OneD.same {w0 : World} {N : Int} {os : List O} (M : OneD w0 w g N os) (hd : Below w.heap.size w w') : OneD w0 w' g N os := ⟨below_step M.1 hd, M.2.below hd⟩
theorem OneD.of {w0 : World} {N : Int} {os os' : List O} (M : OneD w0 w g N os) {T : Nat → Prop} (D : Doc T w' g N 0 os' [] nowhere) (fr : Fr (fun k => w0.heap.size ≤ k) w w') (hT : ∀ k, T k → w0.heap.size ≤ k) : OneD w0 w' g N os' :=
  ⟨below_fr M.1 fr (fun k h => h), D.more hT⟩
theorem OneD.alloc {w0 : World} {N : Int} {os : List O} (M : OneD w0 w g N os) (k : Int) (n q : Nat) (hr : rightB k n q = true) (hfree : ((flat os).length : Int) + n + 1 ≤ N) :
    Calls Try.prog 47 #[.pointer (some ⟨g, 0, none⟩), .int .i64 k, .int .i64 n, .int .i64 q] w fun e w' => e = .returned (.tuple #[.int .i64 (1 + ((flat os).length : Int)), .int .i64 0]) ∧ OneD w0 w' g N (os ++ [newO k n q]) := by
  refine (M.2.alloc k n q hr hfree).mono ?_
  rintro e w' ⟨rfl, D, fr⟩
  refine ⟨by rw [Int.zero_mul, Int.add_zero], M.of D fr (fun k h => ?_)⟩
  rcases h with h | h
  · exact h
  · exact Nat.le_trans M.1.size h
theorem OneD.store {w0 : World} {N : Int} {os : List O} (M : OneD w0 w g N os) (k i : Nat) (x : Int) (hk : k < os.length) (hi : i < os[k].fs.length) :
    Calls Try.prog 48 #[.pointer (some ⟨g, 0, none⟩), .int .i64 (1 + (pos os k : Int)), .int .i64 (i : Int), .int .u64 x] w fun e w' => e = .returned (.int .i64 0) ∧ OneD w0 w' g N (putO os k i x) := by
  have h := M.2.store k i x hk hi
  rw [Int.zero_mul, Int.add_zero] at h
  refine h.mono ?_
  rintro e w' ⟨rfl, D, fr⟩
  exact ⟨rfl, M.of D fr (fun k h => h)⟩
theorem one_doc (N : Int) (h : 64 ≤ N ∧ N ≤ 65536) {w0 : World} (hb : Below w0.heap.size w0 w) : OneD w0 (w.alloc (.cells #[.int .i64 N, .int .i64 0, .slice none 0 0, .slice none 0 0] 30)) w.heap.size N [] :=
  ⟨below_alloc hb _, .slice none 0 0, .slice none 0 0, ⟨N, 0, [], []⟩, ⟨blk_new w _, Kd.R_nil _ _ _ _ _, Kd.R_nil _ _ _ _ _, fun k hk => by simp [Value.ownBlock] at hk, List.Pairwise.nil, hb.size, fun k hk => by simp [Value.ownBlock] at hk, fun k hk => by simp [Value.ownBlock] at hk, fun p hp => by cases hp⟩,
    rfl, rfl, rfl, rfl, h, .inl rfl, by simp [flat]; omega, by simp [flat]; omega⟩
set_option maxHeartbeats 8000000 in
theorem made_doc (wv : Nat → Nat → Int) (A : Option Addr) (c : Nat) (l : List S71) (N : Int) (hC : Kd.C k71 w A l.length l) (hc : l.length ≤ c) (G : Gl wv l N) :
    Calls Try.prog 16 #[.slice A l.length c, .int .i64 N] w fun e W => ∃ g vn vo rs, e = .returned (.agg #[.int .i64 N, .int .i64 0, vn, vo]) ∧ Below w.heap.size w W ∧ DocL (fun k => w.heap.size ≤ k) W g vn vo rs N 0 (full wv l) [] nowhere := by
  have hr : ∀ o ∈ l, 0 ≤ o.f1 ∧ o.f1 ≤ o.f2.length := fun o ho => by
    obtain ⟨p1, p2, p3, p4, p5, p6⟩ := Hf.right_parts (G.r o ho)
    exact ⟨p5, p6⟩
  have hN := G.n
  have hfit := G.fit
  have hlen := G.len
  have hu71 := Try.underlying71
  have hu30 := Try.underlying30
  have hbw0 := below_alloc (Below.refl _ w) (.cells #[.int .i64 0, .int .i64 0, .slice none 0 0, .slice none 0 0] 30)
  go_enter Try.func16, Try.ntmps16
  have hb4 : (w.alloc (.cells #[.int .i64 0, .int .i64 0, .slice none 0 0, .slice none 0 0] 30)).heap[w.heap.size]? = some (.cells #[.int .i64 0, .int .i64 0, .slice none 0 0, .slice none 0 0] 30 (0, 0)) := blk_new w _
  have hC4 := Kd.C_below hC hbw0
  go_wp2_with (first
    | (go_at_call 46; (with_reducible refine (new_any N hN _).mono ?_); rintro e w2 ⟨rfl, hb2⟩
       have M0 := one_doc (w := w2) N hN hb2))
  generalize hw4 : w.alloc (.cells #[.int .i64 0, .int .i64 0, .slice none 0 0, .slice none 0 0] 30) = w4 at *
  clear hC hw4
  generalize w2.alloc (.cells #[.int .i64 N, .int .i64 0, .slice none 0 0, .slice none 0 0] 30) = w3 at M0 ⊢
  generalize w2.heap.size = g at M0 ⊢
  clear hb2
  go_loopw [7] (fun i wr => ∃ k : Nat, k ≤ l.length ∧ i = .int .i64 (k : Int) ∧ OneD w4 wr g N ((l.take k).map nw)) (fun i _ => l.length - (intOf i).toNat)
  case atStart => exact ⟨0, Nat.zero_le _, rfl, M0⟩
  case round =>
    clear M0
    obtain ⟨k, hk, rfl, M⟩ := hrel
    by_cases hk1 : k < l.length
    · have t1 : decide ((k : Int) < (l.length : Int)) = true := decide_eq_true (by omega)
      have t0 : decide (0 ≤ (k : Int)) = true := decide_eq_true (by omega)
      obtain ⟨ad, A2, c2, rfl, hS⟩ := cells3 hC4 k hk1
      obtain ⟨q, hq⟩ : ∃ q : Nat, l[k].f1 = (q : Int) := ⟨l[k].f1.toNat, by have := hr _ (List.getElem_mem hk1); omega⟩
      have hrt := G.r _ (List.getElem_mem hk1)
      have hal := adr_mono l (k + 1) (l.length - (k + 1))
      rw [show k + 1 + (l.length - (k + 1)) = l.length by omega, adr_succ l k hk1] at hal
      have hfl : (flat ((l.take k).map nw)).length = adr l k := by
        rw [flat_adr (l := l.take k) (by rw [List.map_map]; apply List.map_congr_left; intro o ho; exact newO_len _ _ _ (by have := hr o (List.mem_of_mem_take ho); omega))]
        unfold adr
        rw [List.take_take, List.length_take, show min (min k l.length) k = k by omega]
      have hst : (l.take k).map nw ++ [newO l[k].f0 l[k].f2.length q] = (l.take (k + 1)).map nw := by
        rw [List.take_succ_eq_append_getElem hk1, List.map_append, List.map_cons, List.map_nil]
        unfold nw
        rw [hq, Int.toNat_natCast]
      have hAl : ∀ W, Drawn0 wr W → Calls Try.prog 47 #[.pointer (some ⟨g, 0, none⟩), .int .i64 l[k].f0, .int .i64 (l[k].f2.length : Int), .int .i64 (q : Int)] W fun e w' => e = .returned (.tuple #[.int .i64 (1 + (adr l k : Int)), .int .i64 0]) ∧ OneD w4 w' g N ((l.take (k + 1)).map nw) := by
        intro W hd
        have h := (M.drawn hd).alloc l[k].f0 l[k].f2.length q (by rw [← hq]; exact hrt) (by rw [hfl]; omega)
        rw [hfl, hst] at h
        exact h
      rw [hq] at hS
      have hAt : ∀ W, Below w4.heap.size w4 W → Calls Try.prog 43 #[.slice (some ad) l.length c, .int .i64 (k : Int)] W fun e w' => e = .returned (.int .i64 (1 + (adr l k : Int))) ∧ Drawn0 W w' := fun W hb =>
        Pa.kindlingref04_At.calls (k + 1 + 0) (some ad) c l (k : Int) _ W (Kd.C_below hC4 hb) hc (at_f l k 0 hk (by omega) (by omega))
      have hS1 := hS wr M.1
      have hSd := hS wr.drew (below_drew M.1)
      generalize l[k].f0 = kd at hS hAl hS1 hSd
      generalize l[k].f2.length = nn at hS hAl hS1 hSd
      generalize hO2 : (l.take (k + 1)).map nw = os2 at hAl
      obtain ⟨aa, hAA⟩ : ∃ aa, (1 : Int) + (adr l k : Int) = aa := ⟨_, rfl⟩
      rw [hAA] at hAl hAt
      have hM1 := M.1
      replace hO2 := Aside0.mk hO2
      clear hst hrt hq hal hfl hAA M hr hfit
      unfold Cells3 at hS1 hSd
      go_wp2_with fail
      go_region_held3 (fun W' => W'.cell? (ad.add (k * 4)) = some (.int .i64 kd) ∧ W'.cell? ⟨(ad.add (k * 4)).block, (ad.add (k * 4)).off + 1, none⟩ = some (.int .i64 q) ∧ W'.cell? ⟨(ad.add (k * 4)).block, (ad.add (k * 4)).off + 2, none⟩ = some (.slice A2 nn c2))
        (first | (with_reducible exact hS1) | (with_reducible exact hSd) | (with_reducible exact hS5))
        (first
          | (go_at_call 47; (with_reducible refine Calls.mono (hAl _ ⟨1, rfl⟩) ?_); rintro e w5 ⟨rfl, M5⟩; have hS5 := hS w5 M5.1; unfold Cells3 at hS5))
      go_wp2_with fail
      go_roundw
      case rel => exact ⟨k + 1, by omega, by simp, hO2.out ▸ M5⟩
      case measure => simp [intOf]; omega
    · obtain rfl : k = l.length := by omega
      have t1 : decide (((l.length : Nat) : Int) < (l.length : Int)) = false := decide_eq_false (by omega)
      rw [List.take_length, sto_zero wv l hr] at M
      go_wp2_with fail
      go_loopw [8] (fun i wr => ∃ k : Nat, k ≤ l.length ∧ i = .int .i64 (k : Int) ∧ OneD w4 wr g N (sto wv l k 0)) (fun i _ => l.length - (intOf i).toNat)
      case atStart => exact ⟨0, Nat.zero_le _, rfl, M⟩
      case round =>
        clear M hk hk1 t1
        obtain ⟨k, hk, rfl, M⟩ := hrel
        by_cases hk1 : k < l.length
        · have t1 : decide ((k : Int) < (l.length : Int)) = true := decide_eq_true (by omega)
          have t0 : decide (0 ≤ (k : Int)) = true := decide_eq_true (by omega)
          have hnl : l[k].f2.length ≤ 16384 := by
            obtain ⟨p1, p2, p3, p4, p5, p6⟩ := Hf.right_parts (G.r _ (List.getElem_mem hk1))
            omega
          have hal := adr_mono l (k + 1) (l.length - (k + 1))
          rw [show k + 1 + (l.length - (k + 1)) = l.length by omega, adr_succ l k hk1] at hal
          obtain ⟨ad, A2, c2, rfl, hS⟩ := cells3 hC4 k hk1
          obtain ⟨nn, hnn⟩ : ∃ nn, l[k].f2.length = nn := ⟨_, rfl⟩
          rw [hnn] at hS hnl hal
          have hAt : ∀ W, Below w4.heap.size w4 W → Calls Try.prog 43 #[.slice (some ad) l.length c, .int .i64 (k : Int)] W fun e w' => e = .returned (.int .i64 (1 + (adr l k : Int))) ∧ Drawn0 W w' := fun W hb =>
            Pa.kindlingref04_At.calls (k + 1 + 0) (some ad) c l (k : Int) _ W (Kd.C_below hC4 hb) hc (at_f l k 0 hk (by omega) (by omega))
          have hWd : ∀ W (j : Nat), j < nn → Below w4.heap.size w4 W → Calls Try.prog 45 #[.slice (some ad) l.length c, .int .i64 (k : Int), .int .i64 (j : Int)] W fun e w' => e = .returned (.int .u64 (wv k j)) ∧ Below W.heap.size W w' := fun W j hj hb => by
            obtain ⟨m, hm⟩ := G.wd k hk1 j (by rw [hnn]; exact hj)
            exact Pa.kindlingref04_Word.calls m (some ad) c l (k : Int) (j : Int) _ W (Kd.C_below hC4 hb) hc hm
          have hSt : ∀ W (j : Nat), j < nn → OneD w4 W g N (sto wv l k j) → Calls Try.prog 48 #[.pointer (some ⟨g, 0, none⟩), .int .i64 (1 + (adr l k : Int)), .int .i64 (j : Int), .int .u64 (wv k j)] W fun e w' => e = .returned (.int .i64 0) ∧ OneD w4 w' g N (sto wv l k (j + 1)) := fun W j hj M => by
            have hks : k < (sto wv l k j).length := by rw [sto_length]; exact hk1
            have hfl : (sto wv l k j)[k].fs.length = nn := by rw [sto_get wv l k j k hks hk1, ← hnn]; simp
            have h := M.store k j (wv k j) hks (by rw [hfl]; exact hj)
            rw [pos_adr (sto_lens wv l k j), sto_put wv l k j hk1 (by rw [hnn]; exact hj)] at h
            exact h
          have hdn := sto_done wv l k hk1
          rw [hnn] at hdn
          have hNN := Aside0.mk hnn
          have hDN := Aside0.mk hdn
          obtain ⟨aa, hAA⟩ : ∃ aa, (1 : Int) + (adr l k : Int) = aa := ⟨_, rfl⟩
          rw [hAA] at hAt hSt
          clear hnn hdn hAA hal hfit
          go_wp2_with fail
          go_loopw [9] (fun i wr => ∃ j : Nat, j ≤ nn ∧ i = .int .i64 (j : Int) ∧ OneD w4 wr g N (sto wv l k j)) (fun i _ => nn - (intOf i).toNat)
          case atStart => exact ⟨0, Nat.zero_le _, rfl, M⟩
          case round =>
            clear M
            obtain ⟨j, hj, rfl, M⟩ := hrel
            obtain ⟨hS1, hS2, hS3⟩ := hS _ M.1
            have hB4 := M.1
            by_cases hj1 : j < nn
            · have t2 : decide ((j : Int) < (nn : Int)) = true := decide_eq_true (by omega)
              go_wp2_with (first
                | (go_at_call 43; (with_reducible refine (hAt _ hB4).mono ?_); rintro e w6 ⟨rfl, hd6⟩
                   have M6 := M.drawn hd6
                   have hB6 := M6.1)
                | (go_at_call 45; (with_reducible refine (hWd _ j hj1 hB6).mono ?_); rintro e w7 ⟨rfl, hb7⟩
                   have M7 := M6.same hb7)
                | (go_at_call 48; (with_reducible refine (hSt _ j hj1 M7).mono ?_); rintro e w8 ⟨rfl, M8⟩))
              go_roundw
              case rel => exact ⟨j + 1, by omega, by simp, M8⟩
              case measure => simp [intOf]; omega
            · obtain rfl : j = nn := by omega
              have t2 : decide ((j : Int) < (j : Int)) = false := decide_eq_false (by omega)
              go_wp2_with fail
              go_roundw
              case rel => exact ⟨k + 1, by omega, by simp, hDN.out ▸ M⟩
              case measure => simp [intOf]; omega
        · obtain rfl : k = l.length := by omega
          have t1 : decide (((l.length : Nat) : Int) < (l.length : Int)) = false := decide_eq_false (by omega)
          obtain ⟨hbe, vn, vo, rs, D⟩ := M
          have hb4e := blk_below hb4 hbe
          have e0 : wr.cell? ⟨g, 0, none⟩ = some (.int .i64 N) := by rw [← D.sz]; exact (blk_cell D.lies.blk 0).trans rfl
          have e1 : wr.cell? ⟨g, 1, none⟩ = some (.int .i64 0) := by rw [← D.hf]; exact (blk_cell D.lies.blk 1).trans rfl
          have e2 : wr.cell? ⟨g, 2, none⟩ = some vn := (blk_cell D.lies.blk 2).trans rfl
          have e3 : wr.cell? ⟨g, 3, none⟩ = some vo := (blk_cell D.lies.blk 3).trans rfl
          obtain ⟨An, cn, rfl⟩ := D.lies.now.slice
          obtain ⟨Ao, co, rfl⟩ := D.lies.old.slice
          have r0 : wr.cell? ⟨w.heap.size, 0, none⟩ = some (.int .i64 0) := (blk_cell hb4e 0).trans rfl
          have r1 : wr.cell? ⟨w.heap.size, 1, none⟩ = some (.int .i64 0) := (blk_cell hb4e 1).trans rfl
          have r2 : wr.cell? ⟨w.heap.size, 2, none⟩ = some (.slice none 0 0) := (blk_cell hb4e 2).trans rfl
          have r3 : wr.cell? ⟨w.heap.size, 3, none⟩ = some (.slice none 0 0) := (blk_cell hb4e 3).trans rfl
          have y0 := blk_frozen hb4e 0
          have y1 := blk_frozen hb4e 1
          have y2 := blk_frozen hb4e 2
          have y3 := blk_frozen hb4e 3
          go_wp2_with fail
          have hb5 := blk_put (blk_put (blk_put (blk_put hb4e 0 (.int .i64 N) rfl) 1 (.int .i64 0) rfl) 2 (.slice An rs.now.length cn) rfl) 3 (.slice Ao rs.old.length co) rfl
          have fr5 := (((Fr.setg wr w.heap.size 0 (.int .i64 N)).trans (Fr.setg _ w.heap.size 1 (.int .i64 0))).trans (Fr.setg _ w.heap.size 2 (.slice An rs.now.length cn))).trans (Fr.setg _ w.heap.size 3 (.slice Ao rs.old.length co))
          have hlt4 := blk_lt hb4
          refine bodyPost_ret (results_cell_row rfl _ _ w.heap.size 30 _ (0, 0) _ rfl hb5 Try.underlying30 rfl (by kernel_rfl)) rfl ?_
          exact ⟨g, _, _, rs, rfl, below_fr (below_step hbw0 hbe) fr5 (fun k h => by omega), { D with lies := (D.lies.keep fr5 (fun k h e => by omega)).more (fun k h => by omega) }⟩
/-- A memory that was handed over by value, in a box of its own. -/
theorem DocL.rebox {size half : Int} {os olds : List O} {tz : Nat → Int} (D : DocL S w g vn vo rs size half os olds tz) : DocL (fun k => S k ∨ w.heap.size ≤ k) (w.alloc (.cells #[.int .i64 size, .int .i64 half, vn, vo] 30)) w.heap.size vn vo rs size half os olds tz := by
  have L := D.lies.keep (T := fun _ => False) (Fr.of_below (below_alloc (Below.refl _ w) (.cells #[.int .i64 size, .int .i64 half, vn, vo] 30))) (fun _ _ h => h)
  refine { D with lies := ⟨?_, L.now, L.old, L.ap, L.pd, .inr (Nat.le_refl _), fun k hk => .inl (L.sn k hk), fun k hk => .inl (L.so k hk), fun p hp k hk => .inl (L.sw p hp k hk)⟩ }
  rw [D.sz, D.hf]
  exact blk_new w _
end Go.Proofs.Ytjccaojlldkmpaa.Rm
/- The document's Reach. -/
namespace Go.Proofs.Ytjccaojlldkmpaa.Rm
open Go.RowKit Go.Proofs.YtjccaojlldkmpaaW.PrintWords Go.Proofs.YtjccaojlldkmpaaW.PrintLast Go.Proofs.YtjccaojlldkmpaaW.PrintMore
open Mem
open Hf (rightB right_parts)
open Pa (S71 k71 z71 rd_T71 at_T71 S87 k87)
set_option linter.unusedSimpArgs false
set_option linter.unusedVariables false
set_option maxRecDepth 100000
variable {S : Nat → Prop} {w w' W : World} {g c : Nat} {vn vo v : Value} {rs : RS} {l : List P5} {size half : Int} {os olds : List O} {tz : Nat → Int}
theorem to35p (x : Int) (h : u64 x) (w : World) : Calls Try.prog 35 #[.int .u64 x] w fun e w' => e = .returned (.int .i64 (toP x)) ∧ Drawn0 w w' := by
  have h0 := h.1
  have h1 := h.2
  have e1 : Int.tmod x 2 = x % 2 := Int.tmod_eq_emod_of_nonneg h0
  have e2 : Int.tdiv x 2 = x / 2 := Int.tdiv_eq_ediv_of_nonneg h0
  have e3 : IntKind.u64.wrap (x / 2) = x / 2 := by rw [IntKind.wrap_u64]; omega
  have hp : Pa.kindlingref01_IsPtr.f x = some (decide (x % 2 = 0 ∧ 2 ≤ x ∧ x ≤ 2199023255552)) := by
    unfold Pa.kindlingref01_IsPtr.f
    rw [e1, e2, e3]
    by_cases c1 : x % 2 = 0
    · rw [if_pos c1]
      by_cases c2 : x / 2 ≥ 1
      · rw [if_pos c2]
        congr 1
        exact decide_eq_decide.2 (by omega)
      · rw [if_neg c2]
        congr 1
        exact (decide_eq_false (by omega)).symm
    · rw [if_neg c1]
      congr 1
      exact (decide_eq_false (by omega)).symm
  have hf : Pa.kindlingref01_ToPtr.f x = some (toP x) := by
    unfold Pa.kindlingref01_ToPtr.f
    rw [hp]
    unfold toP
    by_cases c : x % 2 = 0 ∧ 2 ≤ x ∧ x ≤ 2199023255552
    · show (if (decide (x % 2 = 0 ∧ 2 ≤ x ∧ x ≤ 2199023255552)) = true then some (wrap64 (IntKind.u64.wrap (Int.tdiv x 2))) else some 0) = _
      rw [if_pos (decide_eq_true c), if_pos c, e2, e3, w64 (by omega)]
    · show (if (decide (x % 2 = 0 ∧ 2 ≤ x ∧ x ≤ 2199023255552)) = true then some (wrap64 (IntKind.u64.wrap (Int.tdiv x 2))) else some 0) = _
      rw [if_neg (by rw [decide_eq_false c]; decide), if_neg c]
  exact Pa.kindlingref01_ToPtr.calls x _ w hf
theorem DocL.fb (D : DocL S w g vn vo rs size half os olds tz) : 1 ≤ 1 + half * size ∧ 1 + half * size ≤ 65537 := by
  have := D.bs
  rcases D.bh with h | h <;> rw [h] <;> omega
theorem DocL.head_range (D : DocL S w g vn vo rs size half os olds tz) {a : Int} (h : a ∈ heads (1 + half * size) os) : 1 ≤ a ∧ a ≤ 300000 := by
  obtain ⟨i, hi, rfl⟩ := mem_heads.1 h
  have h1 := pos_head os i hi
  have h2 := D.fit
  have h3 := D.bs
  have h4 := D.fb
  omega
theorem toP_yes {x : Int} (h0 : ¬ x % 2 = 1) (h : 1 ≤ x / 2 ∧ x / 2 ≤ 300000) : toP x = x / 2 := by
  unfold toP
  rw [if_pos (by omega)]
theorem DocL.toP_no (D : DocL S w g vn vo rs size half os olds tz) {x : Int} (h0 : ¬ x % 2 = 1) (h : x / 2 ∉ heads (1 + half * size) os) : ∀ p ∈ rs.now, p.o.f0 ≠ toP x := by
  intro p hp e
  obtain ⟨i, hi, rfl⟩ := List.mem_iff_getElem.1 hp
  have hl := D.len
  rw [D.at i hi (by omega)] at e
  have e' : (1 : Int) + half * size + (pos os i : Int) = toP x := e
  have hm : (1 : Int) + half * size + (pos os i : Int) ∈ heads (1 + half * size) os := mem_heads.2 ⟨i, by omega, rfl⟩
  have hr := D.head_range hm
  unfold toP at e'
  by_cases c : x % 2 = 0 ∧ 2 ≤ x ∧ x ≤ 2199023255552
  · rw [if_pos c] at e'
    exact h (e' ▸ hm)
  · rw [if_neg c] at e'
    omega
theorem DocL.found (D : DocL S w g vn vo rs size half os olds tz) (i : Nat) (hi : i < os.length) (a : Int) (ha : 1 + half * size + (pos os i : Int) = a) (W : World) (hd : Drawn0 w W) :
    Calls Try.prog 63 #[vn, .int .i64 a] W fun e w' => e = .returned (.int .i64 (i : Int)) ∧ Drawn0 W w' := by
  have hl := D.len
  have hlo := D.os_len
  refine find_at D.lies.now (by omega) a i (by omega) (by rw [D.at i (by omega) hi]; exact ha) (fun j hj e => ?_) W hd
  have := D.alone j i (by omega) (by omega) (by rw [e, D.at i (by omega) hi]; exact ha.symm)
  omega
theorem DocL.lost (D : DocL S w g vn vo rs size half os olds tz) (a : Int) (hn : ∀ p ∈ rs.now, p.o.f0 ≠ a) (W : World) (hd : Drawn0 w W) :
    Calls Try.prog 63 #[vn, .int .i64 a] W fun e w' => e = .returned (.int .i64 (-1)) ∧ Drawn0 W w' := by
  have hl := D.len
  have hlo := D.os_len
  exact find_none D.lies.now (by omega) a hn W hd
theorem DocL.keep (D : DocL S w g vn vo rs size half os olds tz) {T : Nat → Prop} (fr : Fr T w w') (hT : ∀ k, S k → ¬ T k) : DocL S w' g vn vo rs size half os olds tz := { D with lies := D.lies.keep fr hT }
theorem DocL.below (D : DocL S w g vn vo rs size half os olds tz) (hb : Below w.heap.size w w') : DocL S w' g vn vo rs size half os olds tz := D.keep (T := fun _ => False) (Fr.of_below hb) (fun _ _ h => h)
theorem DocL.drawn (D : DocL S w g vn vo rs size half os olds tz) (hd : Drawn0 w w') : DocL S w' g vn vo rs size half os olds tz := D.below hd.below
theorem int33p (x : Int) (h : u64 x) (w : World) : Calls Try.prog 33 #[.int .u64 x] w fun e w' => e = .returned (.bool (x % 2 == 1)) ∧ Drawn0 w w' := by
  have hf : Pa.kindlingref01_IsInt.f x = some (x % 2 == 1) := by
    unfold Pa.kindlingref01_IsInt.f
    rw [Int.tmod_eq_emod_of_nonneg h.1]
  exact Pa.kindlingref01_IsInt.calls x _ w hf
/-- What the words of the objects are. -/
def Whole (os : List O) : Prop := ∀ o ∈ os, (0 ≤ o.tag ∧ o.tag ≤ o.fs.length) ∧ ∀ x ∈ o.fs, u64 x
/-- What lay in w lies as it lay. -/
def Same (w W : World) : Prop := w.heap.size ≤ W.heap.size ∧ ∀ b, b < w.heap.size → W.heap[b]? = w.heap[b]?
theorem Same.refl (w : World) : Same w w := ⟨Nat.le_refl _, fun _ _ => rfl⟩
theorem Same.drew (h : Same w W) : Same w W.drew := h
theorem Same.drawn (h : Same w W) (hd : Drawn0 W w') : Same w w' := ⟨Nat.le_trans h.1 hd.below.size, fun b hb => (hd.below.block b (Nat.lt_of_lt_of_le hb h.1)).trans (h.2 b hb)⟩
theorem Same.alloc (h : Same w W) (o : Obj) : Same w (W.alloc o) := ⟨by rw [World.size_alloc]; exact Nat.le_succ_of_le h.1, fun b hb => (Below.heap_alloc W o b (Nat.lt_of_lt_of_le hb h.1)).trans (h.2 b hb)⟩
theorem Same.set (h : Same w W) {p : Addr} (hp : w.heap.size ≤ p.block) (v : Value) : Same w (W.setCell p v) := ⟨by rw [World.size_setCell]; exact h.1, fun b hb => (Below.heap_setCell W p v b (by omega)).trans (h.2 b hb)⟩
theorem Same.cell (h : Same w W) {a : Addr} {v : Value} (hc : w.cell? a = some v) : W.cell? a = some v := (World.cell?_of_block (h.2 a.block (World.block_lt_of_cell? w a hc))).trans hc
/-- Words that are read, in a row of words. -/
structure Tw (W : World) (A : Option Addr) (xs : List Int) : Prop where
  c : Kd.C (Kd.int .u64) W A xs.length xs
  t : ∀ ad, A = some ad → ∃ cells, W.heap[ad.block]? = some (.cells cells 56 (0, 0))
theorem Tw.below {A : Option Addr} {xs : List Int} (h : Tw W A xs) (hb : Below W.heap.size W w') : Tw w' A xs := ⟨Kd.C_below h.c hb, fun ad e => by
  obtain ⟨cells, hc⟩ := h.t ad e
  exact ⟨cells, blk_below hc hb⟩⟩
theorem Tw.grown {A : Option Addr} {xs : List Int} (h : Tw W A xs) {row : Option Nat} (hg : W.grownBy w' row) (hr : ∀ k, row = some k → ∃ cells, W.heap[k]? = some (.cells cells 3 (0, 0))) : Tw w' A xs := by
  have hne : ∀ ad, A = some ad → some ad.block ≠ row := fun ad e e2 => by
    obtain ⟨c1, h1⟩ := h.t ad e
    obtain ⟨c2, h2⟩ := hr _ e2.symm
    rw [h1] at h2
    cases h2
  exact ⟨C_fr h.c (Fr.of_grown hg (fun k e => e)) (fun ad e e2 => hne ad e e2.symm), fun ad e => by
    obtain ⟨cells, hc⟩ := h.t ad e
    exact ⟨cells, blk_grown hc hg (hne ad e)⟩⟩
theorem tw_row {A : Option Addr} {n c : Nat} {xs : List Int} {b : Nat} {ok : Nat → Prop} (h : (Kd.int .u64).R 56 W b ok (.slice A n c) xs) : Tw W A xs := ⟨(Kd.R_reads' h).2.2, fun ad e => by
  subst e
  obtain ⟨inner, ho⟩ := Kd.R_own h
  exact own_typed ho ad.block rfl⟩
theorem Tw.take {A : Option Addr} {xs : List Int} (h : Tw W A xs) (m : Nat) (hm : m ≤ xs.length) : Tw W A (xs.take m) := ⟨Kd.C_take h.c hm, h.t⟩
/-- From a list of words on. -/
def runP (f : Int) (os : List O) (m k : Nat) (l todo : List Int) : List Int × Bool := if (addP f os l todo).2 = true then goP f os m k (addP f os l todo).1 else addP f os l todo
def RState (w wr : World) (f : Int) (os : List O) (xs : List Int) (v6 v7 v8 : Value) : Prop :=
  ∃ (k m : Nat) (l todo : List Int) (A6 A7 : Option Addr) (c6 c7 : Nat), v6 = .slice A6 l.length c6 ∧ v7 = .slice A7 todo.length c7 ∧ v8 = .int .i64 (k : Int) ∧ (Kd.int .i64).R 3 wr w.heap.size (fun _ => True) (.slice A6 l.length c6) l ∧
    Tw wr A7 todo ∧ todo.length ≤ c7 ∧ (∀ x ∈ todo, u64 x) ∧ todo.length ≤ 70000 ∧ Ord f os l ∧ k ≤ l.length ∧ m + k = os.length + 1 ∧ runP f os m k l todo = walkP f os xs ∧ Below w.heap.size w wr
set_option maxHeartbeats 8000000 in
theorem ref_reach (D : DocL S w g vn vo rs size half os olds tz) (A : Option Addr) (c : Nat) (xs : List Int) (hC : Kd.C (Kd.int .u64) w A xs.length xs) (hc : xs.length ≤ c) (hx : ∀ x ∈ xs, u64 x) (hxl : xs.length ≤ 1000) (hos : Whole os) :
    Calls Try.prog 25 #[.pointer (some ⟨g, 0, none⟩), .slice A xs.length c] w fun e w' => ∃ v, e = .returned (.tuple #[v, .bool (walkP (1 + half * size) os xs).2]) ∧
      ((walkP (1 + half * size) os xs).2 = true → (Kd.int .i64).R 3 w' w.heap.size (fun _ => True) v (walkP (1 + half * size) os xs).1) ∧ ((walkP (1 + half * size) os xs).2 = false → v = .slice none 0 0) ∧ Below w.heap.size w w' := by
  have hu87 := Try.underlying87
  obtain ⟨f, hf⟩ : ∃ f, 1 + half * size = f := ⟨_, rfl⟩
  rw [hf]
  have hfb := D.fb
  rw [hf] at hfb
  have hf' := Aside0.mk hf
  clear hf
  go_enter Try.func25, Try.ntmps25
  go_wp2_with (first
    | ((with_reducible refine gate_builtin (b := .append) (xs := #[.tmp 15, .tmp 16]) rfl ?_); at_builtin; refine Kd.R_append_row (Value.int .u64) (0 : Int) (h1 := fun _ => rfl) (w0 := w) w.heap.size rfl (.tmp 15) (.tmp 16) 32 56 (.int .u64 0) 8 rfl Try.underlying32 info56 rfl (by decide) (.slice none 0 0) [] xs A xs.length c (fun _ => True) rfl rfl (fun _ _ => trivial) (Kd.R_nil _ _ _ _ _) hC (Below.refl _ _) (Nat.le_refl _) (by simp; omega) ?_; intro v1 w1 ho1 hb1 hg1 hat1
       rw [List.nil_append] at ho1
       obtain ⟨A1, c1, rfl⟩ := Kd.R_slice ho1))
  go_loopw [6, 7, 8] (fun v6 v7 v8 wr => RState w wr f os xs v6 v7 v8) (fun _ _ v8 _ => os.length + 1 - (intOf v8).toNat)
  case atStart => exact ⟨0, os.length + 1, [], xs, none, A1, 0, c1, rfl, rfl, rfl, Kd.R_nil _ _ _ _ _, tw_row ho1, (Kd.R_reads' ho1).2.1, hx, by omega, Ord.nil f os, Nat.le_refl _, by omega, rfl, hb1⟩
  case round =>
    clear hb1 hg1 ho1 hat1
    obtain ⟨k, m, l, todo, A6, A7, c6, c7, rfl, rfl, rfl, hR6, hT7, hc7, htd, htl, hO, hkl, hmk, hrun, hbw⟩ := hrel
    go_wp2_with fail
    go_loopw [6, 9] (fun v6 v9 wq => ∃ (j : Nat) (A6 : Option Addr) (c6 : Nat), j ≤ todo.length ∧ v9 = .int .i64 (j : Int) ∧ (addP f os l (todo.take j)).2 = true ∧ v6 = .slice A6 (addP f os l (todo.take j)).1.length c6 ∧
      (Kd.int .i64).R 3 wq w.heap.size (fun _ => True) (.slice A6 (addP f os l (todo.take j)).1.length c6) (addP f os l (todo.take j)).1 ∧ Tw wq A7 todo ∧ Below w.heap.size w wq) (fun _ v9 _ => todo.length - (intOf v9).toNat)
    case atStart => exact ⟨0, A6, c6, Nat.zero_le _, rfl, rfl, rfl, hR6, hT7, hbw⟩
    case round =>
      clear hR6 hT7 hbw
      obtain ⟨j, B6, d6, hj, rfl, hok, rfl, hR6, hT7, hbw⟩ := hrel
      by_cases hlt : j < todo.length
      · have t1 : decide ((j : Int) < (todo.length : Int)) = true := decide_eq_true (by omega)
        obtain ⟨ad, e7, hrd⟩ := Kd.at_int hT7.c (j : Int) (by omega) (by omega)
        subst e7
        rw [Int.toNat_natCast] at hrd
        have hmem : rd todo (j : Int) ∈ todo := by simp [rd, List.getD, hlt]
        have hxu := htd _ hmem
        have htk : todo.take (j + 1) = todo.take j ++ [rd todo (j : Int)] := by rw [List.take_succ_eq_append_getElem hlt]; simp [rd, List.getD, hlt]
        have hsn := addP_snoc f os l (todo.take j) (rd todo (j : Int)) hok
        rw [← htk] at hsn
        have hOj := (hO.addP (todo.take j)).1
        generalize hlj : (addP f os l (todo.take j)).1 = lj at *
        generalize rd todo (j : Int) = x at *
        have hi := fun W => int33p x hxu W
        have ht := fun W => to35p x hxu W
        have htk' := Aside0.mk htk
        have hlj' := Aside0.mk hlj
        clear htk hlj hmem
        by_cases hodd : x % 2 = 1
        · rw [show (x % 2 == 1) = true from beq_iff_eq.2 hodd] at hi
          have hsn' : addP f os l (todo.take (j + 1)) = (lj, true) := by
            rw [hsn]
            unfold add1
            rw [if_pos hodd]
            rfl
          have hSN := Aside0.mk hsn'
          clear hsn hsn'
          go_wp2_with (first
            | (go_at_call 33; (with_reducible refine (hi _).mono ?_); rintro e w5 ⟨rfl, hd5⟩))
          go_roundw
          case rel =>
            refine ⟨j + 1, B6, d6, by omega, rfl, ?_⟩
            rw [hSN.out]
            exact ⟨rfl, rfl, Kd.R_below hR6 hd5.below, hT7.below hd5.below, below_step hbw hd5.below⟩
          case measure => simp [intOf]; omega
        · rw [show (x % 2 == 1) = false from beq_eq_false_iff_ne.2 hodd] at hi
          have hd : Drawn0 wr wr := ⟨0, rfl⟩
          have Dq := D.keep (T := fun k => w.heap.size ≤ k ∧ False) (Fr.of_below hbw) (fun k _ h => h.2)
          have hcv := fun W (hd : Drawn0 wr W) => (blk_cell (Dq.drawn hd).lies.blk 2).trans (rfl : _ = some vn)
          by_cases hin : x / 2 ∈ heads f os
          · obtain ⟨i, hil, hie⟩ := mem_heads.1 hin
            have hrg := D.head_range (show x / 2 ∈ heads (1 + half * size) os by rw [hf'.out]; exact hin)
            have htp := toP_yes hodd hrg
            rw [htp] at ht
            obtain ⟨a, ha⟩ : ∃ a, x / 2 = a := ⟨_, rfl⟩
            rw [ha] at ht hrg hin hie
            have hfo := fun W hd => Dq.found i hil a (by rw [hf'.out]; exact hie.symm) W hd
            have t2 : decide ((i : Int) < 0) = false := decide_eq_false (by omega)
            have hadd : add1 f os lj x = some (if a ∈ lj then lj else lj ++ [a]) := by
              unfold add1
              rw [if_neg hodd, ha, if_pos hin]
              split <;> rfl
            rw [hadd] at hsn
            have hSN := Aside0.mk hsn
            have hlk := hOj.len
            have hlo := D.os_len
            clear hsn hadd htp hie ha
            go_wp2_with (first
              | (go_at_call 33; (with_reducible refine (hi _).mono ?_); rintro e w5 ⟨rfl, hd5⟩; replace hd := drawn_trans hd hd5)
              | (go_at_call 35; (with_reducible refine (ht _).mono ?_); rintro e w5 ⟨rfl, hd5⟩; replace hd := drawn_trans hd hd5; have hc2 := hcv _ hd)
              | (go_at_call 63; (with_reducible refine (hfo _ hd).mono ?_); rintro e w5 ⟨rfl, hd5⟩; replace hd := drawn_trans hd hd5))
            have hRk := Kd.R_below hR6 hd.below
            have hTk := hT7.below hd.below
            have hbk := below_step hbw hd.below
            have hCk := (Kd.R_reads' hRk).2.2
            clear hd5 hcv hfo hi ht hd hR6 hT7 hbw Dq hc2
            go_loopw [12, 13] (fun v12 v13 wq => ∃ q : Nat, q ≤ lj.length ∧ v13 = .int .i64 (q : Int) ∧ v12 = .bool (decide (a ∈ lj.take q)) ∧ wq = w5) (fun _ v13 _ => lj.length - (intOf v13).toNat)
            case atStart => exact ⟨0, Nat.zero_le _, rfl, by simp, rfl⟩
            case round =>
              obtain ⟨q, hq, rfl, rfl, rfl⟩ := hrel
              by_cases hql : q < lj.length
              · have t3 : decide ((q : Int) < (lj.length : Int)) = true := decide_eq_true (by omega)
                obtain ⟨ad2, e2, hr2⟩ := Kd.at_int hCk (q : Int) (by omega) (by omega)
                subst e2
                rw [Int.toNat_natCast] at hr2
                have hq2 : rd lj (q : Int) = lj[q] := by simp [rd, List.getD, hql]
                have htq : lj.take (q + 1) = lj.take q ++ [lj[q]] := List.take_succ_eq_append_getElem hql
                rw [hq2] at hr2
                generalize hy : lj[q] = y at *
                by_cases hmq : a ∈ lj.take q
                · have t4 : decide (a ∈ lj.take q) = true := decide_eq_true hmq
                  have t5 : decide (a ∈ lj.take (q + 1)) = true := decide_eq_true (by rw [htq]; exact List.mem_append_left _ hmq)
                  have T5 := Aside0.mk t5
                  clear htq hq2 hy t5
                  go_wp2_with fail
                  go_roundw
                  case rel => exact ⟨q + 1, by omega, rfl, by rw [T5.out], trivial⟩
                  case measure => simp [intOf]; omega
                · have t4 : decide (a ∈ lj.take q) = false := decide_eq_false hmq
                  have t5 : decide (a ∈ lj.take (q + 1)) = (y == a) := by
                    rw [htq]
                    by_cases e : y = a
                    · rw [decide_eq_true (by rw [← e]; simp), beq_iff_eq.2 e]
                    · rw [decide_eq_false (by simp [hmq]; exact fun h => e h.symm), beq_eq_false_iff_ne.2 e]
                  have T5 := Aside0.mk t5
                  clear htq hq2 hy t5
                  go_wp2_with fail
                  go_roundw
                  case rel => exact ⟨q + 1, by omega, rfl, by rw [T5.out], trivial⟩
                  case measure => simp [intOf]; omega
              · obtain rfl : q = lj.length := by omega
                have t3 : decide (((lj.length : Nat) : Int) < (lj.length : Int)) = false := decide_eq_false (by omega)
                rw [List.take_length]
                by_cases hma : a ∈ lj
                · have t4 : decide (a ∈ lj) = true := decide_eq_true hma
                  go_wp2_with fail
                  go_roundw
                  case rel =>
                    have h := hSN.out
                    rw [if_pos hma] at h
                    refine ⟨j + 1, B6, d6, by omega, rfl, ?_⟩
                    rw [h]
                    exact ⟨rfl, rfl, hRk, hTk, hbk⟩
                  case measure => simp [intOf]; omega
                · have t4 : decide (a ∈ lj) = false := decide_eq_false hma
                  go_wp2_with (first
                    | ((with_reducible refine gate_builtin (b := .append) (xs := #[.tmp 56, .tmp 58]) rfl ?_); at_builtin; refine Kd.R_append (Kd.int .i64) (w0 := wr) w.heap.size rfl (.tmp 56) (.tmp 58) 23 3 (.int .i64 0) 8 rfl Try.underlying23 info3 rfl (by decide) (by omega) (.slice B6 lj.length d6) lj a [.int .i64 a] (fun _ => True) (fun _ => False) rfl rfl rfl (fun _ hk => hk.elim) (fun _ _ => trivial) hRk (Below.refl _ _) hbk.size (by omega) ?_; intro v7 w7 ho7 hb7' hg7 hat7
                       obtain ⟨A7', c7', rfl⟩ := Kd.R_slice ho7))
                  go_roundw
                  case rel =>
                    have h := hSN.out
                    rw [if_neg hma] at h
                    refine ⟨j + 1, A7', c7', by omega, rfl, ?_⟩
                    rw [h]
                    refine ⟨rfl, by simp, ho7, hTk.grown hg7 (fun k hk => ?_), hbk.grown hg7 hbk.size (fun k hk => Kd.R_base hRk k hk)⟩
                    obtain ⟨inner, ho⟩ := Kd.R_own hRk
                    exact own_typed ho k hk
                  case measure => simp [intOf]; omega
          · have hlo := fun W hd => Dq.lost (toP x) (D.toP_no hodd (by rw [hf'.out]; exact hin)) W hd
            have hadd : add1 f os lj x = none := by
              unfold add1
              rw [if_neg hodd, if_neg hin]
            rw [hadd] at hsn
            have hst := addP_stop f os l (todo.take (j + 1)) (todo.drop (j + 1)) (by rw [hsn]; rfl)
            rw [List.take_append_drop, hsn] at hst
            have hw2 : (walkP f os xs).2 = false := by
              rw [← hrun]
              unfold runP
              rw [hst]
              rfl
            have HW2 := Aside0.mk hw2
            clear hsn hadd hst hw2 hrun
            go_wp2_with (first
              | (go_at_call 33; (with_reducible refine (hi _).mono ?_); rintro e w5 ⟨rfl, hd5⟩; replace hd := drawn_trans hd hd5)
              | (go_at_call 35; (with_reducible refine (ht _).mono ?_); rintro e w5 ⟨rfl, hd5⟩; replace hd := drawn_trans hd hd5; have hc2 := hcv _ hd)
              | (go_at_call 63; (with_reducible refine (hlo _ hd).mono ?_); rintro e w5 ⟨rfl, hd5⟩; replace hd := drawn_trans hd hd5))
            go_ret2
            rw [HW2.out]
            exact ⟨.slice none 0 0, rfl, fun h => by simp at h, fun _ => rfl, below_step hbw hd.below⟩
      · obtain rfl : j = todo.length := by omega
        have t1 : decide (((todo.length : Nat) : Int) < (todo.length : Int)) = false := decide_eq_false (by omega)
        rw [List.take_length] at hok hR6 ⊢
        obtain ⟨hOf, hpf⟩ := hO.addP todo
        have hrun2 := hrun
        unfold runP at hrun2
        rw [if_pos hok] at hrun2
        generalize (addP f os l todo).1 = lf at *
        have hlf := hOf.len
        have hlpl := hpf.length_le
        obtain ⟨m, rfl⟩ : ∃ m', m = m' + 1 := ⟨m - 1, by omega⟩
        have hlo := D.os_len
        by_cases hke : k = lf.length
        · have t2 : ((k : Int) == (lf.length : Int)) = true := beq_iff_eq.2 (by omega)
          rw [goP, List.getElem?_eq_none (by omega)] at hrun2
          have HRUN := Aside0.mk hrun2
          subst hke
          clear hrun2 hrun
          go_wp2_with fail
          go_ret2
          rw [← HRUN.out]
          exact ⟨_, rfl, fun _ => hR6, fun h => by simp at h, hbw⟩
        · have t2 : ((k : Int) == (lf.length : Int)) = false := beq_eq_false_iff_ne.2 (by omega)
          have hkl2 : k < lf.length := by omega
          rw [goP, List.getElem?_eq_getElem hkl2] at hrun2
          obtain ⟨i, hil, hie⟩ := mem_heads.1 (hOf.sub _ (List.getElem_mem hkl2))
          have htg := tg_at f os i hil
          rw [← hie] at htg
          replace hrun2 : runP f os m (k + 1) lf (tg f os lf[k]) = walkP f os xs := hrun2
          rw [htg] at hrun2
          have hD2 := D.below hbw
          obtain ⟨ad2, e2, hr2⟩ := Kd.at_int (Kd.R_reads' hR6).2.2 (k : Int) (by omega) (by omega)
          subst e2
          have hq2 : rd lf (k : Int) = lf[k] := by simp [rd, List.getD, hkl2]
          rw [Int.toNat_natCast, hq2] at hr2
          have hlen := hD2.len
          have hir : i < rs.now.length := by omega
          have hat := hD2.at i hir hil
          obtain ⟨qn, cn, cells, rfl, hbn, hcell⟩ := hD2.lies.now.shape (by omega)
          obtain ⟨Aw, cw, hv⟩ := Kd.R_slice (hD2.lies.now.row i hir)
          have hrw := hD2.lies.now.row i hir
          have hcl := hcell i hir
          rw [hv] at hrw
          have hfo := fun W (hb : Below wr.heap.size wr W) => (hD2.below hb).found i hil lf[k] (by rw [hf'.out]; exact hie.symm) W ⟨0, rfl⟩
          obtain ⟨hw1, hw2⟩ := hos _ (List.getElem_mem hil)
          unfold P5.cells at hcl
          rw [hv] at hcl
          rw [hat] at hcl hrw
          obtain ⟨q, hq⟩ : ∃ q : Nat, os[i].tag = (q : Int) := ⟨os[i].tag.toNat, by omega⟩
          have hfs : os[i].fs.length ≤ 65536 := by
            have h1 := pos_head os i hil
            have h2 := D.fit
            have h3 := D.bs
            omega
          rw [hq, Int.toNat_natCast] at hrun2
          rw [hq] at hcl hw1
          generalize lf[k] = a at *
          generalize os[i].kind = kd at *
          generalize os[i].fs = fs at *
          clear hat hv hq2 hie htg hq
          dsimp only at hcl hrw
          have hTw := tw_row hrw
          have hcw := (Kd.R_reads' hrw).2.1
          have hqf : q ≤ fs.length := by omega
          have hqc : (q ≤ cw) = True := eq_true (by omega)
          have d0q : decide (0 ≤ (q : Int)) = true := decide_eq_true (by omega)
          have d1q : decide ((q : Int) ≤ (cw : Int)) = true := decide_eq_true (by omega)
          have k2 : wr.cell? ⟨g, 2, none⟩ = some (.slice (some ⟨qn, 0, none⟩) rs.now.length cn) := (blk_cell hD2.lies.blk 2).trans rfl
          have l0 : wr.cell? ⟨qn, i * 5, none⟩ = some (.int .i64 (1 + half * size + (pos os i : Int))) := (blk_cell hbn _).trans (hcl 0 _ rfl)
          have l1 : wr.cell? ⟨qn, i * 5 + 1, none⟩ = some (.int .i64 kd) := (blk_cell hbn _).trans (hcl 1 _ rfl)
          have l2 : wr.cell? ⟨qn, i * 5 + 2, none⟩ = some (.int .i64 q) := (blk_cell hbn _).trans (hcl 2 _ rfl)
          have l3 : wr.cell? ⟨qn, i * 5 + 3, none⟩ = some (.slice Aw fs.length cw) := (blk_cell hbn _).trans (hcl 3 _ rfl)
          have l4 : wr.cell? ⟨qn, i * 5 + 4, none⟩ = some (.int .i64 0) := (blk_cell hbn _).trans (hcl 4 _ rfl)
          generalize 1 + half * size + (pos os i : Int) = at0 at *
          have hK : ∀ W, Same wr W → W.cell? ⟨g, 2, none⟩ = some (.slice (some ⟨qn, 0, none⟩) rs.now.length cn) ∧ W.cell? (ad2.add k) = some (.int .i64 a) ∧ W.cell? ⟨qn, i * 5, none⟩ = some (.int .i64 at0) ∧ W.cell? ⟨qn, i * 5 + 1, none⟩ = some (.int .i64 kd) ∧ W.cell? ⟨qn, i * 5 + 2, none⟩ = some (.int .i64 q) ∧ W.cell? ⟨qn, i * 5 + 3, none⟩ = some (.slice Aw fs.length cw) ∧ W.cell? ⟨qn, i * 5 + 4, none⟩ = some (.int .i64 0) := fun W h =>
            ⟨h.cell k2, h.cell hr2, h.cell l0, h.cell l1, h.cell l2, h.cell l3, h.cell l4⟩
          have hsm : Same wr wr.drew := (Same.refl wr).drew
          have hdd : Drawn0 wr wr.drew := ⟨1, rfl⟩
          have hbA := below_alloc (Below.refl _ wr) (.cells #[.int .i64 0, .int .i64 0, .int .i64 0, .slice none 0 0, .int .i64 0] 87)
          have hbB : Below wr.heap.size wr (wr.alloc (.cells #[.int .i64 0, .int .i64 0, .int .i64 0, .slice none 0 0, .int .i64 0] 87)).drew := below_drew hbA
          have hzz : (wr.alloc (.cells #[.int .i64 0, .int .i64 0, .int .i64 0, .slice none 0 0, .int .i64 0] 87)).drew.heap[wr.heap.size]? = some (.cells #[.int .i64 0, .int .i64 0, .int .i64 0, .slice none 0 0, .int .i64 0] 87 (0, 0)) := blk_new wr _
          have d0k : decide (0 ≤ (k : Int)) = true := decide_eq_true (by omega)
          have d1k : decide ((k : Int) < (lf.length : Int)) = true := decide_eq_true (by omega)
          have d0i : decide (0 ≤ (i : Int)) = true := decide_eq_true (by omega)
          have d1i : decide ((i : Int) < (rs.now.length : Int)) = true := decide_eq_true (by omega)
          have d2i : (i < rs.now.length) = True := eq_true (by omega)
          have d2k : (k < lf.length) = True := eq_true (by omega)
          have HF7 := Aside0.mk hfo
          have HRUN := Aside0.mk hrun2
          clear hcl hrw k2 l0 l1 l2 l3 l4 hr2 hrun hrun2 hfo hlen hir
          go_wp2_with fail
          go_region_held3 (fun W' => W'.cell? ⟨g, 2, none⟩ = some (.slice (some ⟨qn, 0, none⟩) rs.now.length cn) ∧ W'.cell? (ad2.add k) = some (.int .i64 a) ∧ W'.cell? ⟨qn, i * 5, none⟩ = some (.int .i64 at0) ∧ W'.cell? ⟨qn, i * 5 + 1, none⟩ = some (.int .i64 kd) ∧ W'.cell? ⟨qn, i * 5 + 2, none⟩ = some (.int .i64 q) ∧ W'.cell? ⟨qn, i * 5 + 3, none⟩ = some (.slice Aw fs.length cw) ∧ W'.cell? ⟨qn, i * 5 + 4, none⟩ = some (.int .i64 0))
            (first | (refine hK _ ?_; repeat (first | (with_reducible exact hsm) | (with_reducible exact Same.refl wr) | (with_reducible refine Same.set ?_ (by first | exact Nat.le_refl _ | exact hsm.1) _) | (with_reducible refine Same.alloc ?_ _) | (with_reducible refine Same.drew ?_))))
            (first
              | (go_at_call 63; (with_reducible refine (HF7.out _ hdd.below).mono ?_); rintro e w5 ⟨rfl, hd5⟩; replace hsm := hsm.drawn hd5; have hbF := below_step hdd.below hd5.below)
              | (go_at_call 63; (with_reducible refine (HF7.out _ hbB).mono ?_); rintro e w5 ⟨rfl, hd5⟩; replace hsm := (((Same.refl wr).alloc (.cells #[.int .i64 0, .int .i64 0, .int .i64 0, .slice none 0 0, .int .i64 0] 87)).drew).drawn hd5; have hbF := below_step hbB hd5.below
                 have hz5 := blk_below hzz hd5.below
                 have y0 := (blk_cell hz5 0).trans rfl
                 have y1 := (blk_cell hz5 1).trans rfl
                 have y2 := (blk_cell hz5 2).trans rfl
                 have y3 := (blk_cell hz5 3).trans rfl
                 have y4 := (blk_cell hz5 4).trans rfl
                 have x0 := blk_frozen hz5 0
                 have x1 := blk_frozen hz5 1
                 have x2 := blk_frozen hz5 2
                 have x3 := blk_frozen hz5 3
                 have x4 := blk_frozen hz5 4))
          · have hbx : (w5.alloc (.cells #[.int .i64 at0, .int .i64 kd, .int .i64 q, .slice Aw fs.length cw, .int .i64 0] 87)).heap[w5.heap.size]? = some (.cells #[.int .i64 at0, .int .i64 kd, .int .i64 q, .slice Aw fs.length cw, .int .i64 0] 87 (0, 0)) := blk_new _ _
            have hbW : Below wr.heap.size wr (w5.alloc (.cells #[.int .i64 at0, .int .i64 kd, .int .i64 q, .slice Aw fs.length cw, .int .i64 0] 87)) := below_alloc hbF _
            generalize w5.alloc (.cells #[.int .i64 at0, .int .i64 kd, .int .i64 q, .slice Aw fs.length cw, .int .i64 0] 87) = W9 at hbx hbW ⊢
            have b2 := (blk_cell hbx 2).trans rfl
            have b3 := (blk_cell hbx 3).trans rfl
            go_wp2_with fail
            refine ⟨⟨k + 1, m, lf, fs.take q, some ad2, Aw, d6, cw, rfl, ?_, by simp, Kd.R_below hR6 hbW, (hTw.take q hqf).below hbW, ?_, fun x hx => hw2 x (List.mem_of_mem_take hx), ?_, hOf, by omega, by omega, HRUN.out, below_step hbw hbW⟩, ?_⟩
            · rw [List.length_take, Nat.min_eq_left hqf]
            · rw [List.length_take]; omega
            · rw [List.length_take]; omega
            · simp [intOf]; omega
          · have hbx : (((((w5.setCell ⟨wr.heap.size, 0, none⟩ (.int .i64 at0)).setCell ⟨wr.heap.size, 1, none⟩ (.int .i64 kd)).setCell ⟨wr.heap.size, 2, none⟩ (.int .i64 q)).setCell ⟨wr.heap.size, 3, none⟩ (.slice Aw fs.length cw)).setCell ⟨wr.heap.size, 4, none⟩ (.int .i64 0)).heap[wr.heap.size]? = some (.cells #[.int .i64 at0, .int .i64 kd, .int .i64 q, .slice Aw fs.length cw, .int .i64 0] 87 (0, 0)) := blk_put (blk_put (blk_put (blk_put (blk_put hz5 0 _ rfl) 1 _ rfl) 2 _ rfl) 3 _ rfl) 4 _ rfl
            have hbW : Below wr.heap.size wr (((((w5.setCell ⟨wr.heap.size, 0, none⟩ (.int .i64 at0)).setCell ⟨wr.heap.size, 1, none⟩ (.int .i64 kd)).setCell ⟨wr.heap.size, 2, none⟩ (.int .i64 q)).setCell ⟨wr.heap.size, 3, none⟩ (.slice Aw fs.length cw)).setCell ⟨wr.heap.size, 4, none⟩ (.int .i64 0)) := ((((hbF.setCell (Nat.le_refl _) _).setCell (Nat.le_refl _) _).setCell (Nat.le_refl _) _).setCell (Nat.le_refl _) _).setCell (Nat.le_refl _) _
            generalize ((((w5.setCell ⟨wr.heap.size, 0, none⟩ (.int .i64 at0)).setCell ⟨wr.heap.size, 1, none⟩ (.int .i64 kd)).setCell ⟨wr.heap.size, 2, none⟩ (.int .i64 q)).setCell ⟨wr.heap.size, 3, none⟩ (.slice Aw fs.length cw)).setCell ⟨wr.heap.size, 4, none⟩ (.int .i64 0) = W9 at hbx hbW ⊢
            have b2 := (blk_cell hbx 2).trans rfl
            have b3 := (blk_cell hbx 3).trans rfl
            go_wp2_with fail
            refine ⟨⟨k + 1, m, lf, fs.take q, some ad2, Aw, d6, cw, rfl, ?_, by simp, Kd.R_below hR6 hbW, (hTw.take q hqf).below hbW, ?_, fun x hx => hw2 x (List.mem_of_mem_take hx), ?_, hOf, by omega, by omega, HRUN.out, below_step hbw hbW⟩, ?_⟩
            · rw [List.length_take, Nat.min_eq_left hqf]
            · rw [List.length_take]; omega
            · rw [List.length_take]; omega
            · simp [intOf]; omega
end Go.Proofs.Ytjccaojlldkmpaa.Rm
/- The document's Live; whether a memory holds what the document's holds. -/
namespace Go.Proofs.Ytjccaojlldkmpaa.Rm
open Go.RowKit Go.Proofs.YtjccaojlldkmpaaW.PrintWords Go.Proofs.YtjccaojlldkmpaaW.PrintLast Go.Proofs.YtjccaojlldkmpaaW.PrintMore
open Mem
open Hf (rightB right_parts)
open Pa (S71 k71 z71 rd_T71 at_T71 S87 k87)
set_option linter.unusedSimpArgs false
set_option linter.unusedVariables false
set_option maxRecDepth 100000
variable {S Sm : Nat → Prop} {w w' W : World} {g gd c : Nat} {vn vo v : Value} {rs : RS} {l : List P5} {size half : Int} {os olds : List O} {tz : Nat → Int} {st : St}
/-- The cells of object i. -/
structure ObCells (W : World) (gd qn i n cn : Nat) (o : S87) (Aw : Option Addr) (cw : Nat) : Prop where
  k2 : W.cell? ⟨gd, 2, none⟩ = some (.slice (some ⟨qn, 0, none⟩) n cn)
  l0 : W.cell? ⟨qn, i * 5, none⟩ = some (.int .i64 o.f0)
  l1 : W.cell? ⟨qn, i * 5 + 1, none⟩ = some (.int .i64 o.f1)
  l2 : W.cell? ⟨qn, i * 5 + 2, none⟩ = some (.int .i64 o.f2)
  l3 : W.cell? ⟨qn, i * 5 + 3, none⟩ = some (.slice Aw o.f3.length cw)
  l4 : W.cell? ⟨qn, i * 5 + 4, none⟩ = some (.int .i64 o.f4)
  tw : Tw W Aw o.f3
  cw : o.f3.length ≤ cw
theorem DocL.ob (D : DocL S w gd vn vo rs size half os olds tz) (i : Nat) (h : i < os.length) : ∃ qn cn Aw cw, vn = .slice (some ⟨qn, 0, none⟩) os.length cn ∧
    ∀ W, Below w.heap.size w W → ObCells W gd qn i os.length cn ⟨1 + half * size + (pos os i : Int), os[i].kind, os[i].tag, os[i].fs, 0⟩ Aw cw := by
  have hlen := D.len
  have hir : i < rs.now.length := by omega
  have hat := D.at i hir h
  obtain ⟨qn, cn, cells, rfl, hbn, hcell⟩ := D.lies.now.shape (by omega)
  obtain ⟨Aw, cw, hv⟩ := Kd.R_slice (D.lies.now.row i hir)
  have hrw := D.lies.now.row i hir
  have hcl := hcell i hir
  rw [hv] at hrw
  unfold P5.cells at hcl
  rw [hv] at hcl
  rw [hat] at hcl hrw
  rw [hlen] at D ⊢
  refine ⟨qn, cn, Aw, cw, rfl, fun W hb => ?_⟩
  have hbn2 := blk_below hbn hb
  exact ⟨(blk_cell (blk_below D.lies.blk hb) 2).trans rfl, (blk_cell hbn2 _).trans (hcl 0 _ rfl), (blk_cell hbn2 _).trans (hcl 1 _ rfl), (blk_cell hbn2 _).trans (hcl 2 _ rfl), (blk_cell hbn2 _).trans (hcl 3 _ rfl), (blk_cell hbn2 _).trans (hcl 4 _ rfl), (tw_row hrw).below hb, (Kd.R_reads' hrw).2.1⟩
set_option maxHeartbeats 4000000 in
theorem ref_live_yes (D : DocL S w g vn vo rs size half os olds tz) (A : Option Addr) (c : Nat) (xs : List Int) (hC : Kd.C (Kd.int .u64) w A xs.length xs) (hc : xs.length ≤ c) (hx : ∀ x ∈ xs, u64 x) (hxl : xs.length ≤ 1000) (hos : Whole os) {L : List Int} (hL : walkP (1 + half * size) os xs = (L, true)) :
    Calls Try.prog 29 #[.pointer (some ⟨g, 0, none⟩), .slice A xs.length c] w fun e w' => e = .returned (.tuple #[.int .i64 ((flat (L.map (obAt (1 + half * size) os))).length : Int), .int .i64 0]) ∧ Below w.heap.size w w' := by
  have hR := ref_reach D A c xs hC hc hx hxl hos
  rw [hL] at hR
  have hOL : Ord (1 + half * size) os L := by have := Ord.walkP (1 + half * size) os xs; rw [hL] at this; exact this
  have hlo := D.os_len
  have hlL := hOL.len
  have hof := ord_fit hOL
  have hfit := D.fit
  have hbs := D.bs
  go_enter Try.func29, Try.ntmps29
  go_wp2_with (first
    | (go_at_call 25; (with_reducible refine hR.mono ?_); clear hR; rintro e w2 ⟨v2, rfl, hv, -, hb2⟩
       replace hv := hv rfl
       obtain ⟨A2, c2, rfl⟩ := Kd.R_slice hv))
  go_loopw [8, 9] (fun v8 v9 wr => ∃ k : Nat, k ≤ L.length ∧ v9 = .int .i64 (k : Int) ∧ v8 = .int .i64 (pos (L.map (obAt (1 + half * size) os)) k : Int) ∧ Drawn0 w2 wr) (fun _ v9 _ => L.length - (intOf v9).toNat)
  case atStart => exact ⟨0, Nat.zero_le _, rfl, rfl, ⟨0, rfl⟩⟩
  case round =>
    obtain ⟨k, hk, rfl, rfl, hd⟩ := hrel
    by_cases hlt : k < L.length
    · have t1 : decide ((k : Int) < (L.length : Int)) = true := decide_eq_true (by omega)
      obtain ⟨i, hil, hie⟩ := mem_heads.1 (hOL.sub _ (List.getElem_mem hlt))
      obtain ⟨ad, e2, hrd⟩ := Kd.at_int (Kd.C_below (Kd.R_reads' hv).2.2 hd.below) (k : Int) (by omega) (by omega)
      subst e2
      have hrk : rd L (k : Int) = L[k] := by simp [rd, List.getD, hlt]
      rw [Int.toNat_natCast, hrk] at hrd
      have hbw := below_step hb2 hd.below
      obtain ⟨qn, cn, Aw, cw, rfl, hob⟩ := D.ob i hil
      have hfo := fun W (hb : Below w.heap.size w W) => (D.below hb).found i hil L[k] hie.symm W ⟨0, rfl⟩
      have hps := pos_succ (L.map (obAt (1 + half * size) os)) k (by rw [List.length_map]; exact hlt)
      rw [List.getElem_map] at hps
      have hoa : obAt (1 + half * size) os L[k] = os[i] := by rw [hie, obAt_at _ _ i hil]
      rw [hoa] at hps
      have hpm := pos_mono (L.map (obAt (1 + half * size) os)) (k + 1) (by rw [List.length_map]; omega)
      obtain ⟨k2, l0, l1, l2, l3, l4, tw, hcw⟩ := hob wr hbw
      dsimp only at l3
      generalize L[k] = a at *
      generalize os[i].fs.length = nn at *
      obtain ⟨p1, hp1⟩ : ∃ p, pos (L.map (obAt (1 + half * size) os)) k = p := ⟨_, rfl⟩
      obtain ⟨p2, hp2⟩ : ∃ p, pos (L.map (obAt (1 + half * size) os)) (k + 1) = p := ⟨_, rfl⟩
      rw [hp1, hp2] at hps
      rw [hp2] at hpm
      rw [hp1]
      have hw1 : IntKind.i64.wrap ((p1 : Int) + 1) = (p1 : Int) + 1 := wr64 (by omega)
      have hw2 : IntKind.i64.wrap ((p1 : Int) + 1 + (nn : Int)) = (p1 : Int) + 1 + (nn : Int) := wr64 (by omega)
      have d0i : decide (0 ≤ (i : Int)) = true := decide_eq_true (by omega)
      have d2i : (i < os.length) = True := eq_true hil
      have d1i : decide ((i : Int) < (os.length : Int)) = true := decide_eq_true (by omega)
      have HP2 := Aside0.mk hp2
      have HPS := Aside0.mk hps
      clear hp1 hp2 hps hpm hoa hrk hie hof hL
      go_wp2_with fail
      go_quiet (first | (go_at_call 63; (with_reducible exact q_of (hfo _ (below_step hbw (d0 _ _).below)))))
      go_wp2_with fail
      go_roundw
      case rel => exact ⟨k + 1, by omega, rfl, by rw [HP2.out, HPS.out]; congr 1; omega, drawn_trans hd (d0 _ _)⟩
      case measure => simp [intOf]; omega
    · obtain rfl : k = L.length := by omega
      have t1 : decide (((L.length : Nat) : Int) < (L.length : Int)) = false := decide_eq_false (by omega)
      go_wp2_with fail
      go_ret2
      have hpa := pos_all (L.map (obAt (1 + half * size) os))
      rw [List.length_map] at hpa
      rw [hpa]
      exact ⟨rfl, below_step hb2 hd.below⟩
theorem ref_live_no (D : DocL S w g vn vo rs size half os olds tz) (A : Option Addr) (c : Nat) (xs : List Int) (hC : Kd.C (Kd.int .u64) w A xs.length xs) (hc : xs.length ≤ c) (hx : ∀ x ∈ xs, u64 x) (hxl : xs.length ≤ 1000) (hos : Whole os) (hL : (walkP (1 + half * size) os xs).2 = false) :
    Calls Try.prog 29 #[.pointer (some ⟨g, 0, none⟩), .slice A xs.length c] w fun e w' => e = .returned (.tuple #[.int .i64 0, .int .i64 40]) ∧ Below w.heap.size w w' := by
  have hR := ref_reach D A c xs hC hc hx hxl hos
  rw [hL] at hR
  go_enter Try.func29, Try.ntmps29
  go_wp2_with (first
    | (go_at_call 25; (with_reducible refine hR.mono ?_); clear hR; rintro e w2 ⟨v2, rfl, -, hv, hb2⟩
       obtain rfl := hv rfl))
  go_ret2
  exact ⟨rfl, hb2⟩
set_option maxHeartbeats 8000000 in
theorem same_any (M : IsMem Sm w g st) (D : DocL S w gd vn vo rs st.size st.half st.os olds tz) :
    Calls Try.prog 22 #[.pointer (some ⟨g, 0, none⟩), .pointer (some ⟨gd, 0, none⟩)] w fun e w' => e = .returned (.bool true) ∧ Below w.heap.size w w' := by
  have hu87 := Try.underlying87
  have hH := fun W hd => (M.drawn (w' := W) hd).halfc
  have hN1 := fun W hd => (M.drawn (w' := W) hd).next
  have hN2 := fun W hd => Doc.next ⟨vn, vo, rs, D.drawn (w' := W) hd⟩
  have hF1 := fun W hd => (M.drawn (w' := W) hd).free
  have hF2 := fun W hd => Doc.free ⟨vn, vo, rs, D.drawn (w' := W) hd⟩
  have hlo := D.os_len
  have hc1 : w.cell? ⟨gd, 1, none⟩ = some (.int .i64 st.half) := by rw [← D.hf]; exact (blk_cell D.lies.blk 1).trans rfl
  rw [show st.f = 1 + st.half * st.size from rfl] at hN1
  obtain ⟨nx, hnx⟩ : ∃ n, 1 + st.half * st.size + ((flat st.os).length : Int) = n := ⟨_, rfl⟩
  obtain ⟨fr, hfr⟩ : ∃ n, st.size - ((flat st.os).length : Int) = n := ⟨_, rfl⟩
  obtain ⟨hf, hhf⟩ : ∃ n, st.half = n := ⟨_, rfl⟩
  rw [hnx] at hN1 hN2
  rw [hfr] at hF1 hF2
  rw [hhf] at hH hc1
  clear hnx hfr hhf
  go_enter Try.func22, Try.ntmps22
  go_wp2_with fail
  go_quiet (first
    | (go_at_call 30; (with_reducible exact Calls.quiet_of_same (hH _ (d0 _ _))))
    | (go_at_call 60; (with_reducible exact q_of (hN1 _ (d0 _ _))))
    | (go_at_call 61; (with_reducible exact q_of (hN2 _ (d0 _ _))))
    | (go_at_call 32; (with_reducible exact q_of (hF1 _ (d0 _ _))))
    | (go_at_call 62; (with_reducible exact q_of (hF2 _ (d0 _ _)))))
  go_wp2_with fail
  go_loopw [5] (fun v5 wr => ∃ k : Nat, k ≤ st.os.length ∧ v5 = .int .i64 (k : Int) ∧ Below w.heap.size w wr) (fun v5 _ => st.os.length - (intOf v5).toNat)
  case atStart => exact ⟨0, Nat.zero_le _, rfl, (d0 w nq).below⟩
  case round =>
    obtain ⟨k, hk, rfl, hb⟩ := hrel
    by_cases hlt : k < st.os.length
    · have t1 : decide ((k : Int) < (st.os.length : Int)) = true := decide_eq_true (by omega)
      obtain ⟨qn, cn, Aw, cw, rfl, hob⟩ := D.ob k hlt
      have hLk := fun W hb => (M.below (w' := W) hb).look k hlt
      have hLd := fun W hb j hj => (M.below (w' := W) hb).load k j hlt hj
      rw [show st.f = 1 + st.half * st.size from rfl] at hLk hLd
      obtain ⟨k2, l0, l1, l2, l3, l4, tw, hcw⟩ := hob wr hb
      dsimp only at l0 l1 l2 l3 l4 tw hcw
      have hpo := parts_of M k hlt
      have hwu := fun j hj => word_u64 M k hlt j hj
      generalize 1 + st.half * st.size + (pos st.os k : Int) = a0 at *
      generalize st.os[k].kind = kd at *
      generalize st.os[k].tag = tg at *
      generalize st.os[k].fs = fs at *
      have d0i : decide (0 ≤ (k : Int)) = true := decide_eq_true (by omega)
      have d2i : (k < st.os.length) = True := eq_true hlt
      have d1i : decide ((k : Int) < (st.os.length : Int)) = true := decide_eq_true (by omega)
      have hA := below_alloc hb (.cells #[.int .i64 a0, .int .i64 kd, .int .i64 tg, .slice Aw fs.length cw, .int .i64 0] 87)
      have hbx := blk_new wr (.cells #[.int .i64 a0, .int .i64 kd, .int .i64 tg, .slice Aw fs.length cw, .int .i64 0] 87)
      go_wp2_with (first
        | (go_at_call 34; (with_reducible refine (hLk _ hA).mono ?_); rintro e w5 ⟨rfl, hd5⟩
           have hb5 := below_step hA hd5.below
           have hx5 := blk_below hbx hd5.below
           have e1 := (blk_cell hx5 1).trans rfl
           have e2 := (blk_cell hx5 2).trans rfl
           have e3 := (blk_cell hx5 3).trans rfl))
      have hAw : Below wr.heap.size wr w5 := below_step (below_alloc (Below.refl _ wr) _) hd5.below
      have tw5 := tw.below hAw
      obtain ⟨bx, hbx'⟩ : ∃ bx, wr.heap.size = bx := ⟨_, rfl⟩
      rw [hbx'] at hx5 ⊢
      clear e1 e2 e3 hbx' hbx hA hAw tw l0 l1 l2 l3 l4 k2 hLk hd5
      go_loopw [11] (fun v11 wq => ∃ j : Nat, j ≤ fs.length ∧ v11 = .int .i64 (j : Int) ∧ Drawn0 w5 wq) (fun v11 _ => fs.length - (intOf v11).toNat)
      case atStart => exact ⟨0, Nat.zero_le _, rfl, ⟨0, rfl⟩⟩
      case round =>
        obtain ⟨j, hj, rfl, hd⟩ := hrel
        by_cases hjl : j < fs.length
        · have t2 : decide ((j : Int) < (fs.length : Int)) = true := decide_eq_true (by omega)
          obtain ⟨ad, e2, hrd⟩ := Kd.at_int (tw5.below hd.below).c (j : Int) (by omega) (by omega)
          subst e2
          have hrk : rd fs (j : Int) = fs.getD j 0 := by simp [rd]
          rw [Int.toNat_natCast, hrk] at hrd
          have hL := hLd wr (below_step hb5 hd.below) j hjl
          have hx6 := fun m => blk_below hx5 (drawn_trans hd (d0 wr m)).below
          have e0 := (blk_cell (blk_below hx5 hd.below) 0).trans rfl
          have hcd := fun m => (d0 wr m).below.cell (World.block_lt_of_cell? wr _ hrd)
          have d0j : decide (0 ≤ (j : Int)) = true := decide_eq_true (by omega)
          have d2j : (j < fs.length) = True := eq_true hjl
          generalize fs.getD j 0 = x at *
          clear hrk
          go_wp2_with (first
            | (go_at_call 56; (with_reducible refine hL.mono ?_); clear hL; rintro e w7 ⟨rfl, hd7⟩
               obtain ⟨m7, rfl⟩ := hd7.out
               have e3 := (blk_cell (hx6 m7) 3).trans rfl
               have e4 := (hcd m7).trans hrd))
          go_roundw
          case rel => exact ⟨j + 1, by omega, rfl, drawn_trans hd hd7⟩
          case measure => simp [intOf]; omega
        · obtain rfl : j = fs.length := by omega
          have t2 : decide (((fs.length : Nat) : Int) < (fs.length : Int)) = false := decide_eq_false (by omega)
          go_wp2_with fail
          exact ⟨⟨k + 1, by omega, rfl, below_step hb5 hd.below⟩, by simp [intOf]; omega⟩
    · obtain rfl : k = st.os.length := by omega
      have t1 : decide (((st.os.length : Nat) : Int) < (st.os.length : Int)) = false := decide_eq_false (by omega)
      have hlen := D.len
      obtain ⟨An, cn, rfl⟩ := D.lies.now.slice
      rw [hlen] at D
      have hc2 : wr.cell? ⟨gd, 2, none⟩ = some (.slice An st.os.length cn) := (blk_cell (blk_below D.lies.blk hb) 2).trans rfl
      go_wp2_with fail
      go_ret
      exact ⟨rfl, hb⟩
end Go.Proofs.Ytjccaojlldkmpaa.Rm
/- A range over a function that may be left: the rounds are counted, the yielded values known from the count. -/
namespace Go.Proofs.Ytjccaojlldkmpaa.Rg
open Go.RowKit
set_option linter.unusedSimpArgs false
set_option linter.unusedVariables false
variable {F : Fence} {n : Nat} {P : Program}
/-- How a round is left: it goes on, or the loop is left. -/
def someOn (B : Nat) (I : Nat → World → Prop) (Ix : Nat → World → Prop) (k : Nat) (W : World) : Exit → Act → World → Prop
  | .normal, _, W' => KeepsFrom B W W' ∧ I (k + 1) W'
  | .exit id, _, W' => KeepsFrom B W W' ∧ Ix id W'
  | _, _, _ => False
def FeedsS (F : Fence) (m : Nat) (P : Program) (gf : Nat) (lb : Array Value) (encs : Nat → Array Value) (N : Nat) (I : Nat → World → Prop) (w : World) : Prop :=
  ∀ (l : Nat) (J : Nat → World → Prop) (Jx : World → Prop) (W : World), Below w.heap.size w W → (∀ k W1, J k W1 → I k W1) →
    (∀ k W1, J k W1 → k < N → YieldAt F (m - 1) P l (encs k) W1 fun e W' => (e = .returned (.bool true) ∧ J (k + 1) W') ∨ (e = .returned (.bool false) ∧ Jx W')) → J 0 W →
    CallsIn F m P gf (#[.func (.yield l) #[] #[]] ++ lb) W fun e W' => (∃ v, e = .returned v) ∧ (J N W' ∨ Jx W')
theorem range_some {g : Operand} {ps : Array Tmp} {assign body : Code} {Q : Exit → Act → World → Prop} {a : Act} {w : World} (hro : F.round = none) (h1 : 1 ≤ n) {gf : Nat} {lb : Array Value}
    (hg : a.eval g = .func (.func gf) #[] lb) (hFg : F.fn gf) (eg : ∀ args w, (callFunc gf args).run P w = .ok (.enter gf args) w) {encs : Nat → Array Value} {N : Nat} (I : Nat → World → Prop) (Ix : Nat → World → Prop) {w0 : World}
    (hseq : FeedsS F (n - 1) P gf lb encs N I w0) (hb0 : Below w0.heap.size w0 w) (hps : ∀ k, (encs k).size = ps.size) (hI : OwnFrom w.heap.size I) (hIx : OwnFrom w.heap.size Ix) (h0 : I 0 w) (a₁ : Nat → Act)
    (hassign : ∀ (l k : Nat) (W : World) (K : Act → World → Prop), K (a₁ k) W →
      assign.wpIn (F.inRound l) (n - 1 - 1) P (Exit.then K (fun _ _ _ => False)) { tmps := (ps.zip (encs k)).foldl (fun t (p, v) => t.setIfInBounds p v) a.tmps, defers := [] } W)
    (hbody : ∀ (l k : Nat) (W : World), I k W → k < N → body.wpIn (F.inRound l) (n - 1 - 1) P (someOn w.heap.size I Ix k W) (a₁ k) W)
    (hdone : ∀ (D : Nat) (W : World), w.heap.size ≤ D → I N W → W.heap[D]? = some (.deferred (some [])) → Q .normal { a with defers := { target := .collected D, args := #[] } :: a.defers } W)
    (hstop : ∀ (D id : Nat) (W : World), w.heap.size ≤ D → Ix id W → W.heap[D]? = some (.deferred (some [])) → (Code.exit id).wpIn F n P Q { a with defers := { target := .collected D, args := #[] } :: a.defers } W) :
    (Code.rangeFunc g ps assign body).wpIn F n P Q a w := by
  refine wpIn_rangeFunc fun fn hfn => ?_
  rw [hro]
  obtain ⟨rec, hrec⟩ : ∃ rec : LoopState → Option Code → Loop, rec = fun st pe => { state := st, pending := pe, fn, tmps := a.tmps, params := ps, assign, body, defers := w.heap.size } := ⟨_, rfl⟩
  obtain ⟨W1, hW1⟩ : ∃ W1, (w.alloc (.deferred (some []))).alloc (.loop (rec .ready none)) = W1 := ⟨_, rfl⟩
  have hL1 : W1.heap[w.heap.size + 1]? = some (.loop (rec .ready none)) := by
    rw [← hW1]
    have := World.alloc_heap_new (w.alloc (.deferred (some []))) (.loop (rec .ready none))
    rwa [World.size_alloc] at this
  have hK1 : W1.heap[w.heap.size]? = some (.deferred (some [])) := by
    rw [← hW1]
    exact (Below.heap_alloc _ _ _ (by simp)).trans (World.alloc_heap_new w _)
  have hI1 : I 0 W1 := hW1 ▸ hI.alloc _ (hI.alloc _ h0)
  have hb1 : Below w0.heap.size w0 W1 := by
    rw [← hW1]
    exact hb0.trans ((((Below.refl _ w).alloc (Nat.le_refl _) _).alloc (by simp) _).mono hb0.size)
  refine ⟨w.heap.size + 1, [{ target := .collected w.heap.size, args := #[] }], W1, { target := .fn (.func gf) lb, args := #[.func (.yield (w.heap.size + 1)) #[] #[]] }, W1, gf, #[.func (.yield (w.heap.size + 1)) #[] #[]] ++ lb, W1, ?_, ?_, ?_, ?_, fun _ => h1, ?_⟩
  · rw [← hW1, hrec]
    exact run_enterLoop_outer _ _ _ _ _
  · simp only [resolve, hg]
    simp [go_sem]
  · intro f' hf'
    simp [Target.leads] at hf'
    exact hf' ▸ hFg
  · simp [invoke, go_sem, eg]
  · refine (hseq (w.heap.size + 1) (fun k W => I k W ∧ W.heap[w.heap.size + 1]? = some (.loop (rec .ready none)) ∧ W.heap[w.heap.size]? = some (.deferred (some [])))
      (fun W => ∃ id, Ix id W ∧ W.heap[w.heap.size + 1]? = some (.loop (rec .done (some (.exit id)))) ∧ W.heap[w.heap.size]? = some (.deferred (some []))) W1 hb1 (fun k W h => h.1) ?_ ⟨hI1, hL1, hK1⟩).mono ?_
    · rintro k W ⟨hi, hl, hd⟩ hk
      have hlt : w.heap.size + 1 < W.heap.size := (Array.getElem?_eq_some_iff.1 hl).1
      have hy := run_yield (P := P) (args := encs k) hl (by rw [hrec]; exact hps k)
      rw [hrec] at hy
      refine ⟨fn, _, assign, body, hy, roundIn_of_wpIn hfn (hassign _ k W _ ⟨_, run_beginRound hl (by rw [hrec]), ?_⟩)⟩
      have hl2 : (W.putObj (w.heap.size + 1) (.loop { rec .ready none with state := .busy })).heap[w.heap.size + 1]? = some (.loop { rec .ready none with state := .busy }) := World.putObj_heap_same hlt
      have hd2 : (W.putObj (w.heap.size + 1) (.loop { rec .ready none with state := .busy })).heap[w.heap.size]? = some (.deferred (some [])) := (World.putObj_heap_other (by omega)).trans hd
      refine wpIn_mono (hbody _ k _ (hI.putObj _ hi (by omega) hl rfl) hk) ?_
      have fin : ∀ (jump : Option Code) (W3 : World), KeepsFrom w.heap.size (W.putObj (w.heap.size + 1) (.loop { rec .ready none with state := .busy })) W3 →
          (Instr.endRound (w.heap.size + 1) jump).run P W3 = .ok (.bool jump.isNone) (W3.putObj (w.heap.size + 1) (.loop (rec (if jump.isNone then .ready else .done) jump))) ∧
          W3.heap[w.heap.size + 1]? = some (.loop { rec .ready none with state := .busy }) ∧
          (W3.putObj (w.heap.size + 1) (.loop (rec (if jump.isNone then .ready else .done) jump))).heap[w.heap.size + 1]? = some (.loop (rec (if jump.isNone then .ready else .done) jump)) ∧
          (W3.putObj (w.heap.size + 1) (.loop (rec (if jump.isNone then .ready else .done) jump))).heap[w.heap.size]? = some (.deferred (some [])) := fun jump W3 hk3 => by
        have hl3 := hk3.same _ _ (by omega) hl2 rfl
        have := run_endRound (P := P) jump hl3
        rw [hrec] at this ⊢
        exact ⟨this, by rw [hrec] at hl3; exact hl3, World.putObj_heap_same (Array.getElem?_eq_some_iff.1 hl3).1, (World.putObj_heap_other (by omega)).trans (hk3.same _ _ (Nat.le_refl _) hd2 rfl)⟩
      rintro e a3 W3 hp
      cases e with
      | normal =>
        obtain ⟨hk3, hi3⟩ := hp
        obtain ⟨hr, hl3, hl4, hk4⟩ := fin none W3 hk3
        exact ⟨_, _, hr, .inl ⟨rfl, hI.putObj _ hi3 (by omega) hl3 rfl, hl4, hk4⟩⟩
      | exit id =>
        obtain ⟨hk3, hi3⟩ := hp
        obtain ⟨hr, hl3, hl4, hk4⟩ := fin (some (.exit id)) W3 hk3
        exact ⟨_, _, hr, .inr ⟨rfl, id, hIx.putObj _ hi3 (by omega) hl3 rfl, hl4, hk4⟩⟩
      | _ => exact hp.elim
    · rintro e W2 ⟨⟨v, rfl⟩, (⟨hi, hl, hd⟩ | ⟨id, hi, hl, hd⟩)⟩
      · exact ⟨none, _, by have := run_endLoop (P := P) hl (by rw [hrec]; simp); rw [hrec] at this; exact this, hdone _ _ (Nat.le_refl _) (hI.putObj _ hi (by omega) hl rfl) ((World.putObj_heap_other (by omega)).trans hd)⟩
      · exact ⟨some (.exit id), _, by have := run_endLoop (P := P) hl (by rw [hrec]; simp); rw [hrec] at this; exact this, hstop _ id _ (Nat.le_refl _) (hIx.putObj _ hi (by omega) hl rfl) ((World.putObj_heap_other (by omega)).trans hd)⟩
end Go.Proofs.Ytjccaojlldkmpaa.Rg

namespace Go.Proofs.Ytjccaojlldkmpaa.Mem
open Go.RowKit Go.Proofs.YtjccaojlldkmpaaW.PrintWords Go.Proofs.YtjccaojlldkmpaaW.PrintLast Go.Proofs.YtjccaojlldkmpaaW.PrintMore
open Hf (rightB hdr headOf partsOf)
open Rg
set_option linter.unusedSimpArgs false
set_option linter.unusedVariables false
set_option maxRecDepth 100000
attribute [local go_sem] Oper.semAt_some
set_option maxHeartbeats 4000000 in
/-- gc.Reach's iterator tells its row, one by one, till it is left. -/
theorem reach_feedsS (F : Fence) (m : Nat) (h65 : F.fn 65) (hro : F.round = none) (hm : 1 ≤ m) (bo : Nat) (l : List Int) (I : Nat → World → Prop) (w0 : World) (A : Option Addr) (c : Nat) (hl : l.length ≤ 100000)
    (hI : ∀ k W, I k W → W.heap[bo]? = some (.cells #[.slice A l.length c] 23 (0, 0)) ∧ (Kd.int .i64).R 3 W 0 (fun _ => True) (.slice A l.length c) l) :
    FeedsS F m Try.prog 65 #[.pointer (some ⟨bo, 0, none⟩)] (fun k => #[.int .i64 (rdOf 0 l (k : Int))]) l.length I w0 := by
  intro lp J Jx W hW hJI hY h0
  have hc0 : W.cell? ⟨bo, 0, none⟩ = some (.slice A l.length c) := (blk_cell (hI 0 W (hJI 0 W h0)).1 0).trans rfl
  refine callsIn_of_wp Try.func65 rfl h65 ?_ hro
  simp only [Try.ntmps65, List.size_toArray, List.length_cons, List.length_nil, Nat.reduceAdd, Nat.reduceSub, Array.replicate_succ, Array.replicate_zero, List.push_toArray, List.append_toArray, List.nil_append, List.cons_append]
  gi_wp2
  gi_loopw [7] (fun i wr => ∃ k : Nat, k ≤ l.length ∧ i = .int .i64 k ∧ J k wr) (fun i _ => l.length - (intOf i).toNat)
  case atStart => exact ⟨0, Nat.zero_le _, rfl, h0⟩
  case round =>
    obtain ⟨k, hk, rfl, hJ⟩ := hrel
    by_cases hlt : k < l.length
    · obtain ⟨hbx, hR⟩ := hI k wr (hJI k wr hJ)
      obtain ⟨gr, cr, hv, -, -⟩ := Kd.R_form hR (by omega)
      injection hv with e1 e2 e3
      subst e1 e3
      have hcl := (Kd.R_celln (0 : Int) hR (k : Int) (by omega) (by omega)).1
      rw [Int.toNat_natCast] at hcl
      have t1 : decide ((k : Int) < (l.length : Int)) = true := decide_eq_true (by omega)
      have t0 : decide (0 ≤ (k : Int)) = true := decide_eq_true (by omega)
      obtain ⟨fn, tmps, assign, body, hy, hRd⟩ := hY k wr hJ hlt
      clear hc0 hbx hR
      gi_wp2
      refine hRd.mono ?_
      rintro e W3 (⟨rfl, hJ3⟩ | ⟨rfl, hJx⟩)
      · gi_wp2
        go_roundw
        case rel => exact ⟨k + 1, by omega, by simp, hJ3⟩
        case measure => simp [intOf]; omega
      · gi_wp2
        refine bodyPost_ret (results_none rfl _ _ _) rfl ?_
        exact ⟨⟨_, rfl⟩, .inr hJx⟩
    · obtain rfl : k = l.length := by omega
      gi_wp2
      go_end0
      exact ⟨⟨_, rfl⟩, .inl hJ⟩
end Go.Proofs.Ytjccaojlldkmpaa.Mem
