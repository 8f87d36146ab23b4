/- The law GcNil, walked. -/
import Derived.Test.YtjccaojlldkmpaaKn4
namespace Go.Proofs.Ytjccaojlldkmpaa.Mem
open Go.RowKit Go.Proofs.YtjccaojlldkmpaaW.PrintWords Go.Proofs.YtjccaojlldkmpaaW.PrintLast Go.Proofs.YtjccaojlldkmpaaW.PrintMore
open Hf (rightB hdr headOf partsOf)
open Rg
set_option linter.unusedSimpArgs false
set_option linter.unusedVariables false
set_option maxRecDepth 100000
variable {S : Nat → Prop} {w W W' w' : World} {g n B : Nat} {st : St}
theorem results_cell {P : Program} {fn : Func} {p : Tmp} {ty : TypeId} (h : fn.results = #[.cell p ty]) (tmps : Array Value) (w : World) (a : Addr) (v : Value) (hp : tmps.getD p undef = .pointer (some a)) (hv : (loadVar ty a).run P w = .ok v w) :
    (results fn tmps).run P w = .ok v w := by
  have hp' : tmps[p]?.getD undef = .pointer (some a) := by simpa using hp
  simp [results, h, hp', asAddr, hv]
theorem load4 (w : World) (a : Addr) (b : Bool) (h : w.cell? a = some (.bool b)) : (loadVar 4 a).run Try.prog w = .ok (.bool b) w := by
  simp [loadVar, h, go_sem]
/-- A row that an iterator tells, kept. -/
def Told (bo : Nat) (l : List Int) (A : Option Addr) (c : Nat) (W : World) : Prop := W.heap[bo]? = some (.cells #[.slice A l.length c] 23 (0, 0)) ∧ (Kd.int .i64).R 3 W 0 (fun _ => True) (.slice A l.length c) l
theorem SeqAt.told {base bo : Nat} {l : List Int} (h : SeqAt W base bo l) : ∃ A c, Told bo l A c W := by
  obtain ⟨-, A, c, h1, h2⟩ := h
  exact ⟨A, c, h1, Kd.R_lower h2 (Nat.zero_le _)⟩
theorem not_row {row : Option Nat} {B' : Nat} (h : ∀ r, row = some r → B' ≤ r ∧ ∃ o : Obj, W.heap[r]? = some o ∧ o.isCells = false) {k : Nat} {o : Obj} (hk : W.heap[k]? = some o) (ho : o.isCells = true) : some k ≠ row := fun e => by
  obtain ⟨-, o', h1, h2⟩ := h _ e.symm
  rw [hk] at h1
  cases h1
  rw [ho] at h2
  cases h2
theorem Told.kept {bo : Nat} {l : List Int} {A : Option Addr} {c : Nat} (K : Told bo l A c W) {B' : Nat} {row : Option Nat} (hg : W.grownBy W' row) (h : ∀ r, row = some r → B' ≤ r ∧ ∃ o : Obj, W.heap[r]? = some o ∧ o.isCells = false) : Told bo l A c W' :=
  ⟨(hg.block _ (blk_lt K.1) (not_row h K.1 rfl)).trans K.1, R_fr K.2 (Fr.of_grown hg (fun k e => e)) (fun k hk e => by
    obtain ⟨cs, h1⟩ := Kd.R_typed K.2 k hk
    exact not_row h h1 rfl e.symm)⟩
theorem Told.same {bo : Nat} {l : List Int} {A : Option Addr} {c : Nat} (K : Told bo l A c W) (hb : Below W.heap.size W W') : Told bo l A c W' := ⟨blk_below K.1 hb, Kd.R_below K.2 hb⟩
theorem below_row {w : World} (hb : Below w.heap.size w W) {B' : Nat} {row : Option Nat} (hg : W.grownBy W' row) (h : ∀ r, row = some r → B' ≤ r ∧ ∃ o : Obj, W.heap[r]? = some o ∧ o.isCells = false) (hB : w.heap.size ≤ B') : Below w.heap.size w W' :=
  hb.grown hg hb.size (fun k e => Nat.le_trans hB (h k e).1)
attribute [local go_sem] Oper.semAt_some
set_option maxHeartbeats 8000000 in
theorem gcnil_any (w : World) : Calls Try.prog 10 #[] w fun e w' => e = .returned (.bool true) ∧ Below w.heap.size w w' := by
  have b0 := Boxed.new w 4 (.bool false)
  have hB0 : Below w.heap.size w (w.alloc (.cells #[.bool false] 4)) := (Below.refl _ w).alloc (Nat.le_refl _) _
  refine (callsIn_wide (n := 5)).1 (callsIn_of_wp_marks Try.func10 rfl trivial ?_ rfl)
  simp only [Try.ntmps10, List.size_toArray, List.length_cons, List.length_nil, Nat.reduceAdd, Nat.reduceSub, Array.replicate_succ, Array.replicate_zero, List.push_toArray, List.append_toArray, List.nil_append, List.cons_append]
  refine wpIn_wide.2 ?_
  go_wp2_with (first
    | (go_at_call 19; (with_reducible refine (collect_nil _ _).mono ?_); rintro e w1 ⟨rfl, hb1⟩)
    | (go_at_call 28; (with_reducible refine (live_nil _ _).mono ?_); rintro e w2 ⟨rfl, hb2⟩)
    | (go_at_call 27; (with_reducible refine (reach_nil _ _).mono ?_); rintro e w3 ⟨bo, rfl, hS, hb3⟩
       have hnn := seq_there bo w3; refine Hid.out ?_))
  unfold Hid
  obtain ⟨A, c, hT⟩ := hS.told
  have b3 : Boxed w3 w.heap.size 4 (.bool false) := blk_below (blk_alloc (blk_below (blk_below (blk_alloc b0 (.cells #[.int .u64 1] 56)) hb1) hb2) (.cells #[.int .u64 1] 56)) hb3
  have hB3 : Below w.heap.size w w3 := below_step (below_alloc (below_step (below_step (below_alloc hB0 (.cells #[.int .u64 1] 56)) hb1) hb2) (.cells #[.int .u64 1] 56)) hb3
  clear hb1 hb2 hb3 hS b0 hB0
  go_wp2_with fail
  refine (wpIn_wide (n := 5)).1 ?_
  refine' range_all (F := Fence.wide) (n := 5) rfl (by omega) (gf := 65) (lb := #[.pointer (some ⟨bo, 0, none⟩)]) rfl trivial (enters_of Try.func65 (by kernel_rfl) rfl)
    (encs := fun k => #[.int .i64 (rdOf 0 [] (k : Int))]) (N := 0)
    (fun k W => Boxed W w.heap.size 4 (.bool false) ∧ Below w.heap.size w W ∧ Told bo [] A c W)
    (w0 := w3) (reach_feeds Fence.wide (5 - 1) trivial rfl (by omega) bo [] _ w3 A c (by decide) (fun k W K => K.2.2)) (Below.refl _ _) (fun _ => rfl) ?own ?h0 _ ?assign ?body ?done
  case own =>
    intro k W W' row K hg hr
    exact ⟨(hg.block _ (blk_lt K.1) (not_row hr K.1 rfl)).trans K.1, below_row K.2.1 hg hr hB3.size, K.2.2.kept hg hr⟩
  case h0 => exact ⟨b3, hB3, hT⟩
  case assign =>
    intro l k W K' hK
    gi_wp2
    exact hK
  case body =>
    intro l k W K hk
    exact absurd hk (Nat.not_lt_zero _)
  case done =>
    intro D W hD K hdf
    obtain ⟨b4, hB4, hT4⟩ := K
    have hw0 : w.heap.size < D := Nat.lt_of_lt_of_le b3.lt hD
    clear hT4 hT b3
    go_wp2_with (first
      | (go_at_call 26; (with_reducible refine (check_nil _ _).mono ?_); rintro e w5 ⟨rfl, rfl⟩)
      | (go_at_call 24; (with_reducible refine (known_any _).mono ?_); rintro e w6 ⟨rfl, hb6⟩
         have b6 : Boxed w6 w.heap.size 4 (.bool false) := blk_below b4 hb6
         have hc6 := b6.cell
         have hf6 := b6.frozen))
    have b7 := b6.set (.bool true)
    have hB6 := below_step hB4 hb6
    have k6 : (w6.setCell ⟨w.heap.size, 0, none⟩ (.bool true)).heap[D]? = some (.deferred (some [])) := ((Fr.of_set (S := fun k => k = w.heap.size) w6 ⟨w.heap.size, 0, none⟩ _ rfl).same D (Nat.lt_of_lt_of_le (Array.getElem?_eq_some_iff.1 hdf).1 hb6.size) (by omega)).trans ((hb6.block D (Array.getElem?_eq_some_iff.1 hdf).1).trans hdf)
    refine ⟨by simp, .inl ⟨_, _, rfl, run_takeDeferred k6, ?_⟩⟩
    have b8 := b7.kept (grownBy_putObj' _ D (.deferred none)) (fun e => by have := Option.some.inj e; omega)
    refine ⟨_, results_cell rfl _ _ ⟨w.heap.size, 0, none⟩ _ rfl (load4 _ _ _ b8.cell), rfl, ?_⟩
    exact (below_set hB6 (Nat.le_refl _)).grown (grownBy_putObj' _ D (.deferred none)) (by have := hB6.size; simp; omega) (fun k e => by cases e; omega)
end Go.Proofs.Ytjccaojlldkmpaa.Mem
