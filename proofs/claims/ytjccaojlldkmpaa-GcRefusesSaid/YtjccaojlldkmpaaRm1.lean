/- The document's memory: its states. -/
import Derived.Test.YtjccaojlldkmpaaRm0
namespace Go.Proofs.Ytjccaojlldkmpaa.Rm
open Go.RowKit Go.Proofs.YtjccaojlldkmpaaW.PrintWords Go.Proofs.YtjccaojlldkmpaaW.PrintLast Go.Proofs.YtjccaojlldkmpaaW.PrintMore
open Mem (Fr)
open Pa (S87 k87 z87 rd_T87 at_T87 k87_mk)
set_option linter.unusedSimpArgs false
set_option linter.unusedVariables false
structure RS where
  size : Int
  half : Int
  now : List P5
  old : List P5
/-- No two objects have one row of words. -/
def Apart (l : List P5) : Prop := l.Pairwise fun a b => ∀ k, a.v.ownBlock = some k → b.v.ownBlock ≠ some k
structure Lies (S : Nat → Prop) (w : World) (g : Nat) (vn vo : Value) (rs : RS) : Prop where
  blk : w.heap[g]? = some (.cells #[.int .i64 rs.size, .int .i64 rs.half, vn, vo] 30 (0, 0))
  now : Ro w vn rs.now
  old : Ro w vo rs.old
  ap : ∀ k, vn.ownBlock = some k → vo.ownBlock ≠ some k
  pd : Apart (rs.now ++ rs.old)
  sg : S g
  sn : ∀ k, vn.ownBlock = some k → S k
  so : ∀ k, vo.ownBlock = some k → S k
  sw : ∀ p ∈ rs.now ++ rs.old, ∀ k, p.v.ownBlock = some k → S k
variable {S : Nat → Prop} {w w' W : World} {g n c : Nat} {vn vo v : Value} {rs : RS} {l : List P5}
theorem Lies.keep (L : Lies S w g vn vo rs) {T : Nat → Prop} (fr : Fr T w w') (hT : ∀ k, S k → ¬ T k) : Lies S w' g vn vo rs where
  blk := (fr.same g (blk_lt L.blk) (hT g L.sg)).trans L.blk
  now := L.now.keep fr (fun k hk => hT k (L.sn k hk)) (fun p hp k hk => hT k (L.sw p (List.mem_append_left _ hp) k hk))
  old := L.old.keep fr (fun k hk => hT k (L.so k hk)) (fun p hp k hk => hT k (L.sw p (List.mem_append_right _ hp) k hk))
  ap := L.ap
  pd := L.pd
  sg := L.sg
  sn := L.sn
  so := L.so
  sw := L.sw
theorem Lies.more (L : Lies S w g vn vo rs) {T : Nat → Prop} (h : ∀ k, S k → T k) : Lies T w g vn vo rs :=
  ⟨L.blk, L.now, L.old, L.ap, L.pd, h _ L.sg, fun k hk => h k (L.sn k hk), fun k hk => h k (L.so k hk), fun p hp k hk => h k (L.sw p hp k hk)⟩
theorem Lies.bound (L : Lies S w g vn vo rs) : Lies (fun k => S k ∧ k < w.heap.size) w g vn vo rs :=
  ⟨L.blk, L.now, L.old, L.ap, L.pd, ⟨L.sg, blk_lt L.blk⟩, fun k hk => ⟨L.sn k hk, L.now.lt k hk⟩, fun k hk => ⟨L.so k hk, L.old.lt k hk⟩, fun p hp k hk => ⟨L.sw p hp k hk, by
    rcases List.mem_append.1 hp with h | h
    · exact L.now.lt_row p h k hk
    · exact L.old.lt_row p h k hk⟩⟩
theorem Lies.drawn (L : Lies S w g vn vo rs) (hd : Drawn0 w w') : Lies S w' g vn vo rs := L.keep (T := fun _ => False) (Fr.of_drawn hd) (fun _ _ h => h)
/-- A state, told without the rows. -/
structure RT where
  size : Int
  half : Int
  now : List S87
  old : List S87
def RS.t (rs : RS) : RT := ⟨rs.size, rs.half, rs.now.map P5.o, rs.old.map P5.o⟩
/-- Block g is a memory of the document's in state t; all its blocks are in S. -/
def IsRef (S : Nat → Prop) (w : World) (g : Nat) (t : RT) : Prop := ∃ vn vo rs, Lies S w g vn vo rs ∧ rs.t = t
variable {t : RT}
theorem IsRef.keep (M : IsRef S w g t) {T : Nat → Prop} (fr : Fr T w w') (hT : ∀ k, S k → ¬ T k) : IsRef S w' g t := by
  obtain ⟨vn, vo, rs, L, rfl⟩ := M
  exact ⟨vn, vo, rs, L.keep fr hT, rfl⟩
theorem IsRef.more (M : IsRef S w g t) {T : Nat → Prop} (h : ∀ k, S k → T k) : IsRef T w g t := by
  obtain ⟨vn, vo, rs, L, rfl⟩ := M
  exact ⟨vn, vo, rs, L.more h, rfl⟩
theorem IsRef.bound (M : IsRef S w g t) : IsRef (fun k => S k ∧ k < w.heap.size) w g t := by
  obtain ⟨vn, vo, rs, L, rfl⟩ := M
  exact ⟨vn, vo, rs, L.bound, rfl⟩
theorem IsRef.drawn (M : IsRef S w g t) (hd : Drawn0 w w') : IsRef S w' g t := M.keep (T := fun _ => False) (Fr.of_drawn hd) (fun _ _ h => h)
theorem IsRef.below (M : IsRef S w g t) (hb : Below w.heap.size w w') : IsRef S w' g t := M.keep (T := fun _ => False) (Fr.of_below hb) (fun _ _ h => h)
/-! ### Used, Find, Next, Free -/
def used (l : List S87) : Nat := (l.map (fun o => o.f3.length + 1)).sum
def find (l : List S87) (a : Int) : Int := if h : ∃ i, i < l.length ∧ (rd_T87 l i).f0 = a then (l.findIdx (fun o => o.f0 == a) : Int) else -1
theorem used_f (l : List S87) (h : used l ≤ 1000000000) (h2 : l.length ≤ 1000000000) : Pa.kindlingref02_Used.f (l.length + 1) l = some (used l : Int) := by
  have go : ∀ d k, k + d = l.length → ∀ m, d < m → Pa.kindlingref02_Used.l0 m l (used (l.take k) : Int) (k : Int) = some (used l : Int) := by
    intro d
    induction d with
    | zero =>
      intro k hk m hm
      obtain ⟨m, rfl⟩ : ∃ m', m = m' + 1 := ⟨m - 1, by omega⟩
      rw [Pa.kindlingref02_Used.l0, if_neg (by omega), List.take_of_length_le (by omega)]
    | succ d ih =>
      intro k hk m hm
      obtain ⟨m, rfl⟩ : ∃ m', m = m' + 1 := ⟨m - 1, by omega⟩
      have hkl : k < l.length := by omega
      have e : rd_T87 l (k : Int) = l[k] := by simp [rd_T87, List.getD, hkl]
      have es : used (l.take (k + 1)) = used (l.take k) + (l[k].f3.length + 1) := by
        unfold used
        rw [List.take_succ_eq_append_getElem hkl, List.map_append, List.sum_append]
        simp
      have hle : used (l.take (k + 1)) ≤ used l := by
        conv => rhs; rw [← List.take_append_drop (k + 1) l]
        unfold used
        rw [List.map_append, List.sum_append]
        omega
      rw [Pa.kindlingref02_Used.l0, if_pos (by omega), if_pos (by omega), e, Hf.w64_of (n := (used (l.take k) : Int) + 1) (by omega), Hf.w64_of (n := (used (l.take k) : Int) + 1 + (l[k].f3.length : Int)) (by omega), Hf.w64_of (by omega)]
      have := ih (k + 1) (by omega) m (by omega)
      rw [es] at this
      rw [show (used (l.take k) : Int) + 1 + (l[k].f3.length : Int) = ((used (l.take k) + (l[k].f3.length + 1) : Nat) : Int) by omega]
      exact this
  have := go l.length 0 (by omega) (l.length + 1) (by omega)
  rw [List.take_zero] at this
  exact this
/-- Where an address is found. -/
theorem find_yes (l : List S87) (a : Int) (k : Nat) (hk : k < l.length) (hl : l.length ≤ 1000000000) (ha : l[k].f0 = a) (hn : ∀ j, (hj : j < k) → (l[j]'(by omega)).f0 ≠ a) : Pa.kindlingref02_Find.f (l.length + 1) l a = some (k : Int) := by
  have go : ∀ d j, j + d = k → ∀ m, d < m → Pa.kindlingref02_Find.l0 m l a (j : Int) = some (k : Int) := by
    intro d
    induction d with
    | zero =>
      intro j hj m hm
      obtain ⟨m, rfl⟩ : ∃ m', m = m' + 1 := ⟨m - 1, by omega⟩
      obtain rfl : j = k := by omega
      have e : rd_T87 l (j : Int) = l[j] := by simp [rd_T87, List.getD, hk]
      rw [Pa.kindlingref02_Find.l0, if_pos (by omega), if_pos (by omega), e, if_pos ha]
    | succ d ih =>
      intro j hj m hm
      obtain ⟨m, rfl⟩ : ∃ m', m = m' + 1 := ⟨m - 1, by omega⟩
      have hjl : j < l.length := by omega
      have e : rd_T87 l (j : Int) = l[j] := by simp [rd_T87, List.getD, hjl]
      rw [Pa.kindlingref02_Find.l0, if_pos (by omega), if_pos (by omega), e, if_neg (hn j (by omega)), Hf.w64_of (by omega)]
      exact ih (j + 1) (by omega) m (by omega)
  exact go k 0 (by omega) _ (by omega)
theorem find_no (l : List S87) (a : Int) (hl : l.length ≤ 1000000000) (hn : ∀ o ∈ l, o.f0 ≠ a) : Pa.kindlingref02_Find.f (l.length + 1) l a = some (-1) := by
  have go : ∀ d j, j + d = l.length → ∀ m, d < m → Pa.kindlingref02_Find.l0 m l a (j : Int) = some (-1) := by
    intro d
    induction d with
    | zero =>
      intro j hj m hm
      obtain ⟨m, rfl⟩ : ∃ m', m = m' + 1 := ⟨m - 1, by omega⟩
      rw [Pa.kindlingref02_Find.l0, if_neg (by omega)]
    | succ d ih =>
      intro j hj m hm
      obtain ⟨m, rfl⟩ : ∃ m', m = m' + 1 := ⟨m - 1, by omega⟩
      have hjl : j < l.length := by omega
      have e : rd_T87 l (j : Int) = l[j] := by simp [rd_T87, List.getD, hjl]
      rw [Pa.kindlingref02_Find.l0, if_pos (by omega), if_pos (by omega), e, if_neg (hn _ (List.getElem_mem hjl)), Hf.w64_of (by omega)]
      exact ih (j + 1) (by omega) m (by omega)
  exact go l.length 0 (by omega) _ (by omega)
theorem used_any (R : Ro w v l) (h : used (l.map P5.o) ≤ 1000000000) (W : World) (hb : Drawn0 w W) : Calls Try.prog 78 #[v] W fun e w' => e = .returned (.int .i64 (used (l.map P5.o) : Int)) ∧ Drawn0 W w' := by
  obtain ⟨A, c, rfl, hc, hC⟩ := R.reads
  exact Pa.kindlingref02_Used.calls _ A c _ _ W (Kd.C_below hC hb.below) hc (used_f _ h (by
    have : (l.map P5.o).length ≤ used (l.map P5.o) := by
      unfold used
      generalize l.map P5.o = q
      induction q with
      | nil => simp
      | cons a q ih => simp; omega
    omega))
end Go.Proofs.Ytjccaojlldkmpaa.Rm
