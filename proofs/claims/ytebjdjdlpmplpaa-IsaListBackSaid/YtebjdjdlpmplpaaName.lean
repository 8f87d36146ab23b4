/- What isa.Name answers, at every number. -/
import Derived.WalkKit
import Derived.WalkLawsBesides
import Derived.Laws.Tables
import Derived.Test.YtebjdjdlpmplpaaProg
import Derived.Test.YtebjdjdlpmplpaaWWords
namespace Go.Proofs.Ytebjdjdlpmplpaa.Isa
open Go.RowKit Go.Proofs.YtebjdjdlpmplpaaW.PrintWords
/-- The names of the operations. -/
def nameAt : Nat → ByteArray
  | 0 => ⟨#[]⟩
  | 1 => ⟨#[105, 110, 116]⟩
  | 2 => ⟨#[108, 105, 116]⟩
  | 3 => ⟨#[109, 111, 118, 101]⟩
  | 4 => ⟨#[112, 117, 116]⟩
  | 5 => ⟨#[108, 111, 97, 100]⟩
  | 6 => ⟨#[115, 97, 118, 101]⟩
  | 7 => ⟨#[97, 100, 100]⟩
  | 8 => ⟨#[115, 117, 98]⟩
  | 9 => ⟨#[109, 117, 108]⟩
  | 10 => ⟨#[100, 105, 118]⟩
  | 11 => ⟨#[109, 111, 100]⟩
  | 12 => ⟨#[110, 101, 103]⟩
  | 13 => ⟨#[108, 101, 115, 115]⟩
  | 14 => ⟨#[97, 116, 109, 111, 115, 116]⟩
  | 15 => ⟨#[115, 97, 109, 101]⟩
  | 16 => ⟨#[116, 117, 112, 108, 101]⟩
  | 17 => ⟨#[99, 108, 111, 115, 117, 114, 101]⟩
  | 18 => ⟨#[114, 101, 102]⟩
  | 19 => ⟨#[102, 105, 101, 108, 100]⟩
  | 20 => ⟨#[102, 105, 108, 108]⟩
  | 21 => ⟨#[97, 115, 115, 105, 103, 110]⟩
  | 22 => ⟨#[116, 97, 103]⟩
  | 23 => ⟨#[106, 117, 109, 112]⟩
  | 24 => ⟨#[117, 110, 108, 101, 115, 115]⟩
  | 25 => ⟨#[101, 110, 116, 101, 114]⟩
  | 26 => ⟨#[99, 97, 108, 108]⟩
  | 27 => ⟨#[116, 97, 105, 108]⟩
  | 28 => ⟨#[114, 101, 116, 117, 114, 110]⟩
  | 29 => ⟨#[104, 97, 110, 100, 108, 101]⟩
  | 30 => ⟨#[117, 110, 104, 97, 110, 100, 108, 101]⟩
  | 31 => ⟨#[114, 97, 105, 115, 101]⟩
  | 32 => ⟨#[106, 111, 105, 110]⟩
  | 33 => ⟨#[115, 105, 122, 101]⟩
  | 34 => ⟨#[115, 116, 114]⟩
  | 35 => ⟨#[111, 114, 100]⟩
  | 36 => ⟨#[100, 105, 103, 105, 116, 115]⟩
  | _ => ⟨#[]⟩
def nameOf (op : Int) : ByteArray := if op < 1 then ⟨#[]⟩ else if 37 ≤ op then ⟨#[]⟩ else nameAt op.toNat
section
variable {P : Program} {ops : Array Oper} {rest : List Oper} {o : Oper} {a : Act} {W w0 : World} {Q : Exit → Act → World → Prop}
theorem build_at (hg : o.guard = none) (t : TypeId) (parts : Array (Nat × Operand)) (ho : o.op = .build t parts) (cells : Array Value)
    (hf : P.built t (parts.map fun (i, x) => (i, a.eval x)).toList = some cells)
    (h : wpList P ops Q rest (a.put o.dst (.agg cells)) W) : wpList P ops Q (o :: rest) a W :=
  wpList_build hg t parts ho (by rw [hf]; rfl) (by rw [hf]; exact h)
theorem below_setRow {B : Nat} {w0 W : World} (h : Below B w0 W) {g : Nat} (hg : B ≤ g) (cs : Array Value) : Below B w0 (W.setRow g cs) :=
  h.trans ⟨rfl, rfl, rfl, by simp [World.setRow], fun k hk => setRow_other W g k cs (by omega)⟩
theorem store_row_at (hgd : o.guard = none) (ty : TypeId) (x y : Operand) (ho : o.op = .store ty x y)
    (g : Nat) (cells : Array Value) (hx : a.eval x = .pointer (some ⟨g, 0, none⟩)) (hy : a.eval y = .agg cells)
    (t : TypeId) (old : Array Value) (hg : W.heap[g]? = some (.cells old t (0, 0))) (hi : (P.info? ty).map (·.size) = some cells.size)
    (hold : old.size = cells.size) (h1 : cells.all (·.oneCell') = true) {B : Nat} (hB : Below B w0 W) (hgB : B ≤ g)
    (h : ∀ W2, W2.heap[g]? = some (.cells cells t (0, 0)) → Below B w0 W2 → wpList P ops Q rest (a.put o.dst undef) W2) : wpList P ops Q (o :: rest) a W :=
  wpList_store_row hgd ty x y ho g cells hx hy t old hg hi hold h1 (h _ (setRow_heap W g old cells t (0, 0) hg) (below_setRow hB hgB cells))
end
def nameL : List ByteArray := (List.range 37).map nameAt
def NAMES : Array Value := (nameL.map Value.string).toArray
def ZEROS : Array Value := (List.replicate 37 (Value.string ⟨#[]⟩)).toArray
theorem names_get (k : Nat) (h : k < 37) : NAMES[k]? = some (.string (nameAt k)) := by
  simp [NAMES, nameL, h]
theorem name_in (w : World) (k : Nat) (h1 : 1 ≤ k) (h2 : k < 37) :
    Calls Try.prog 15 #[.int .i64 k] w fun e w' => e = .returned (.string (nameAt k)) ∧ Below w.heap.size w w' := by
  have h1' : ¬ (k : Int) < 1 := by omega
  have h2' : decide ((37 : Int) ≤ (k : Int)) = false := decide_eq_false (by omega)
  go_enter Try.func15, Try.ntmps15
  go_wp2_with (first
    | ((with_reducible refine gate_dst (N := 4) rfl ?_); refine build_at rfl 65 _ rfl NAMES (by as_aux_lemma => kernel_rfl) ?_)
    | ((with_reducible refine gate_dst (N := 3) rfl ?_); refine box_event rfl (N := 3) rfl (cs := ZEROS) (t := 65) (by as_aux_lemma => kernel_rfl) ?_; intro g hg w1 hb1 hB1; have hge := Nat.le_of_eq hg.symm; clear hg)
    | ((with_reducible refine gate_store (t := 65) (p := 3) rfl ?_); refine store_row_at rfl 65 _ _ rfl g NAMES rfl rfl 65 ZEROS hb1 (by as_aux_lemma => kernel_rfl) (by as_aux_lemma => kernel_rfl) (by as_aux_lemma => kernel_rfl) hB1 hge ?_; intro w2 hb2 hB2; have hck := (blk_cell hb2 k).trans (names_get k h2)))

  go_ret
  exact ⟨rfl, hB2⟩
theorem name_low (w : World) (op : Int) (h : op < 1) :
    Calls Try.prog 15 #[.int .i64 op] w fun e w' => e = .returned (.string ⟨#[]⟩) ∧ Below w.heap.size w w' := by
  go_enter Try.func15, Try.ntmps15
  go_wp2_with (first
    | ((with_reducible refine gate_dst (N := 4) rfl ?_); refine build_at rfl 65 _ rfl NAMES (by as_aux_lemma => kernel_rfl) ?_)
    | ((with_reducible refine gate_dst (N := 3) rfl ?_); refine box_event rfl (N := 3) rfl (cs := ZEROS) (t := 65) (by as_aux_lemma => kernel_rfl) ?_; intro g hg w1 hb1 hB1; have hge := Nat.le_of_eq hg.symm; clear hg)
    | ((with_reducible refine gate_store (t := 65) (p := 3) rfl ?_); refine store_row_at rfl 65 _ _ rfl g NAMES rfl rfl 65 ZEROS hb1 (by as_aux_lemma => kernel_rfl) (by as_aux_lemma => kernel_rfl) (by as_aux_lemma => kernel_rfl) hB1 hge ?_; intro w2 hb2 hB2))

  go_ret
  exact ⟨rfl, hB2⟩
theorem name_high (w : World) (op : Int) (h : 37 ≤ op) :
    Calls Try.prog 15 #[.int .i64 op] w fun e w' => e = .returned (.string ⟨#[]⟩) ∧ Below w.heap.size w w' := by
  have h1 : ¬ op < 1 := by omega
  go_enter Try.func15, Try.ntmps15
  go_wp2_with (first
    | ((with_reducible refine gate_dst (N := 4) rfl ?_); refine build_at rfl 65 _ rfl NAMES (by as_aux_lemma => kernel_rfl) ?_)
    | ((with_reducible refine gate_dst (N := 3) rfl ?_); refine box_event rfl (N := 3) rfl (cs := ZEROS) (t := 65) (by as_aux_lemma => kernel_rfl) ?_; intro g hg w1 hb1 hB1; have hge := Nat.le_of_eq hg.symm; clear hg)
    | ((with_reducible refine gate_store (t := 65) (p := 3) rfl ?_); refine store_row_at rfl 65 _ _ rfl g NAMES rfl rfl 65 ZEROS hb1 (by as_aux_lemma => kernel_rfl) (by as_aux_lemma => kernel_rfl) (by as_aux_lemma => kernel_rfl) hB1 hge ?_; intro w2 hb2 hB2))

  go_ret
  exact ⟨rfl, hB2⟩
theorem name_any (op : Int) (w : World) : Calls Try.prog 15 #[.int .i64 op] w fun e w' => e = .returned (.string (nameOf op)) ∧ Below w.heap.size w w' := by
  by_cases h1 : op < 1
  · rw [show nameOf op = ⟨#[]⟩ by unfold nameOf; rw [if_pos h1]]
    exact name_low w op h1
  by_cases h2 : 37 ≤ op
  · rw [show nameOf op = ⟨#[]⟩ by unfold nameOf; rw [if_neg h1, if_pos h2]]
    exact name_high w op h2
  obtain ⟨k, rfl⟩ : ∃ k : Nat, op = k := ⟨op.toNat, by omega⟩
  rw [show nameOf k = nameAt k by unfold nameOf; rw [if_neg h1, if_neg h2]; rfl]
  exact name_in w k (by omega) (by omega)
end Go.Proofs.Ytebjdjdlpmplpaa.Isa
