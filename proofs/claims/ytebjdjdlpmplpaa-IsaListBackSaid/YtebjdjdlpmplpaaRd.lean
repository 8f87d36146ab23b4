/- isa.Read: the instructions of a text, line by line; where each line's reading is known. -/
import Derived.Test.YtebjdjdlpmplpaaRd0
namespace Go.Proofs.Ytebjdjdlpmplpaa.Ln
open Go.RowKit Go.Shelf Go.Proofs.Ytebjdjdlpmplpaa.Tx Go.Proofs.YtebjdjdlpmplpaaW.PrintWords Go.Proofs.YtebjdjdlpmplpaaW.PrintLast
set_option linter.unusedVariables false
set_option linter.unusedSimpArgs false
attribute [local go_sem] Oper.semAt_some
section
variable (s : ByteArray) (q : ByteArray → S30) (er : ByteArray → Int)
/-- One line more: what is read so far, and the first wrong line (-1: none). -/
def stepR (p : List S30 × Int) (x : Nat × ByteArray) : List S30 × Int :=
  if 0 ≤ p.2 then p else if er (cut s x.2) = 0 then (p.1 ++ [q (cut s x.2)], p.2) else (p.1, (x.1 : Int))
def St (pre : List (Nat × ByteArray)) : List S30 × Int := pre.foldl (stepR s q er) ([], -1)
theorem St_snoc (pre : List (Nat × ByteArray)) (x : Nat × ByteArray) : St s q er (pre ++ [x]) = stepR s q er (St s q er pre) x := by
  simp [St]
theorem St_len (pre : List (Nat × ByteArray)) : (St s q er pre).1.length ≤ pre.length := by
  have h : ∀ (l : List (Nat × ByteArray)) (p : List S30 × Int), (l.foldl (stepR s q er) p).1.length ≤ p.1.length + l.length := by
    intro l
    induction l with
    | nil => intro p; exact Nat.le_refl _
    | cons x l ih =>
      intro p
      refine Nat.le_trans (ih _) ?_
      rw [List.length_cons]
      unfold stepR
      split
      · omega
      · split
        · rw [List.length_append, List.length_singleton]; omega
        · simp only; omega
  simpa [St] using h pre ([], -1)
end
/-- What isa.Read answers. -/
noncomputable def readOf (s : ByteArray) (q : ByteArray → S30) (er : ByteArray → Int) : List S30 × Int × Int :=
  if 4096 < (linesOf s).length then ([], 0, 3) else if 0 ≤ (St s q er (prs (linesOf s))).2 then ([], (St s q er (prs (linesOf s))).2, 32) else ((St s q er (prs (linesOf s))).1, 0, 0)
theorem results_three {P : Program} {fn : Func} {p1 p2 p3 : Tmp} {t1 t2 t3 : TypeId} (h : fn.results = #[.cell p1 t1, .cell p2 t2, .cell p3 t3]) (tmps : Array Value) (w : World) (a1 a2 a3 : Addr) (v1 v2 v3 : Value)
    (e1 : tmps.getD p1 undef = .pointer (some a1)) (e2 : tmps.getD p2 undef = .pointer (some a2)) (e3 : tmps.getD p3 undef = .pointer (some a3))
    (l1 : (loadVar t1 a1).run P w = .ok v1 w) (l2 : (loadVar t2 a2).run P w = .ok v2 w) (l3 : (loadVar t3 a3).run P w = .ok v3 w) :
    (results fn tmps).run P w = .ok (.tuple #[v1, v2, v3]) w := by
  have e1' : tmps[p1]?.getD undef = .pointer (some a1) := by simpa using e1
  have e2' : tmps[p2]?.getD undef = .pointer (some a2) := by simpa using e2
  have e3' : tmps[p3]?.getD undef = .pointer (some a3) := by simpa using e3
  simp [results, h, e1', e2', e3', asAddr, l1, l2, l3]
theorem load56 (w : World) (a : Addr) (A : Option Addr) (n c : Nat) (h : w.cell? a = some (.slice A n c)) : (loadVar 56 a).run Try.prog w = .ok (.slice A n c) w := by
  simp [loadVar, h, go_sem]
theorem load3 (w : World) (a : Addr) (n : Int) (h : w.cell? a = some (.int .i64 n)) : (loadVar 3 a).run Try.prog w = .ok (.int .i64 n) w := by
  simp [loadVar, h, go_sem]
theorem load32 (w : World) (a : Addr) (n : Int) (h : w.cell? a = some (.int .i64 n)) : (loadVar 32 a).run Try.prog w = .ok (.int .i64 n) w := by
  simp [loadVar, h, go_sem]
theorem prs_mem (l : List ByteArray) (k : Nat) (h : k < l.length) : ∃ y, (k, y) ∈ prs l := by
  refine ⟨l[k], ?_⟩
  have hl : k < (prs l).length := by rw [prs_length]; exact h
  have e : (prs l)[k] = (k, l[k]) := by simp [prs]
  rw [← e]
  exact List.getElem_mem hl
theorem prs_bound {l : List ByteArray} {x : Nat × ByteArray} (h : x ∈ prs l) : x.1 < l.length := by
  obtain ⟨i, hi, e⟩ := List.getElem_of_mem h
  rw [prs_length] at hi
  have : (prs l)[i]'(by rw [prs_length]; exact hi) = (i, l[i]) := by simp [prs]
  rw [this] at e
  rw [← e]
  exact hi
def enc30 (x : S30) : List Value := [.int .i64 x.f0, .int .i64 x.f1, .int .i64 x.f2, .int .i64 x.f3, .int .i64 x.f4]
def fl30 (xs : List S30) : List Value := xs.flatMap enc30
theorem fl30_snoc (xs : List S30) (x : S30) : fl30 (xs ++ [x]) = fl30 xs ++ enc30 x := by simp [fl30]
theorem reps30 (w : World) (base : Nat) (ok : Nat → Prop) (xs : List S30) : Reps (k30.M w base ok) 5 xs (fl30 xs) := by
  have h : ∀ ys : List S30, Reps (k30.M w base ok) 5 ys.reverse (fl30 ys.reverse) := by
    intro ys
    induction ys with
    | nil => exact Reps.none _ _
    | cons y ys ih =>
      rw [List.reverse_cons, fl30_snoc]
      exact ih.snoc (k30_mkM _ _ _ y) rfl
  have := h xs.reverse
  rwa [List.reverse_reverse] at this
theorem R30_of_own {w : World} {base : Nat} {v : Value} {xs : List S30} (h : w.ownsRow base 30 5 v xs.length (fl30 xs)) : Kd.R k30 30 w base (fun _ => True) v xs :=
  ⟨fun _ _ => trivial, fl30 xs, h, reps30 _ _ _ _⟩
theorem info30' : (Try.prog.info? 30).map (fun i => (i.zero, i.size, i.bytes)) = some (some (.agg #[.int .i64 0, .int .i64 0, .int .i64 0, .int .i64 0, .int .i64 0]), 5, 40) := by kernel_rfl
theorem cell_five_new (w : World) (x : S30) (t : TypeId) : ∀ j u, (enc30 x)[j]? = some u → (w.alloc (.cells #[.int .i64 x.f0, .int .i64 x.f1, .int .i64 x.f2, .int .i64 x.f3, .int .i64 x.f4] t)).cell? ((⟨w.heap.size, 0, none⟩ : Addr).add j) = some u := by
  intro j u hj
  have e : ((⟨w.heap.size, 0, none⟩ : Addr).add j) = ⟨w.heap.size, j, none⟩ := by
    simp [Addr.add]
    omega
  rw [e, World.cell?_alloc_at _ _ _ _ rfl]
  have h : (#[Value.int .i64 x.f0, .int .i64 x.f1, .int .i64 x.f2, .int .i64 x.f3, .int .i64 x.f4] : Array Value) = (enc30 x).toArray := rfl
  rw [h, List.getElem?_toArray]
  exact hj
theorem below_grown {W w1 : World} (h : Below W.heap.size W w1) : W.grownBy w1 none := ⟨h.os, h.tape, h.output, h.size, fun k hk _ => h.block k hk⟩
theorem boxed_below {W W' : World} {B : Nat} {t : TypeId} {v : Value} (h : Boxed W B t v) (hb : Below W.heap.size W W') : Boxed W' B t v := (hb.block B h.lt).trans h
/-- The blocks that isa.Read lays ahead of its loop. -/
def five (w : World) : World := ((((w.alloc (.cells #[.slice none 0 0] 56)).alloc (.cells #[.int .i64 0] 3)).alloc (.cells #[.int .i64 0] 32)).alloc (.cells #[.slice none 0 0] 56)).alloc (.cells #[.int .i64 (-1)] 3)
theorem five_boxes (w : World) : Boxed (five w) w.heap.size 56 (.slice none 0 0) ∧ Boxed (five w) (w.heap.size + 1) 3 (.int .i64 0) ∧ Boxed (five w) (w.heap.size + 1 + 1) 32 (.int .i64 0) ∧ Boxed (five w) (w.heap.size + 1 + 1 + 1) 56 (.slice none 0 0) ∧ Boxed (five w) (w.heap.size + 1 + 1 + 1 + 1) 3 (.int .i64 (-1)) ∧ Below w.heap.size w (five w) ∧ w.heap.size + 5 ≤ (five w).heap.size := by
  unfold five
  refine ⟨?_, ?_, ?_, ?_, ?_, ?_, ?_⟩
  · exact ((((Boxed.new w 56 _).alloc _).alloc _).alloc _).alloc _
  · have h := Boxed.new (w.alloc (.cells #[.slice none 0 0] 56)) 3 (.int .i64 0)
    simp only [World.size_alloc] at h
    exact ((h.alloc _).alloc _).alloc _
  · have h := Boxed.new ((w.alloc (.cells #[.slice none 0 0] 56)).alloc (.cells #[.int .i64 0] 3)) 32 (.int .i64 0)
    simp only [World.size_alloc] at h
    exact (h.alloc _).alloc _
  · have h := Boxed.new (((w.alloc (.cells #[.slice none 0 0] 56)).alloc (.cells #[.int .i64 0] 3)).alloc (.cells #[.int .i64 0] 32)) 56 (.slice none 0 0)
    simp only [World.size_alloc] at h
    exact h.alloc _
  · have h := Boxed.new ((((w.alloc (.cells #[.slice none 0 0] 56)).alloc (.cells #[.int .i64 0] 3)).alloc (.cells #[.int .i64 0] 32)).alloc (.cells #[.slice none 0 0] 56)) 3 (.int .i64 (-1))
    simp only [World.size_alloc] at h
    exact h
  · exact (((((Below.refl _ w).alloc (Nat.le_refl _) _).alloc (by simp) _).alloc (by simp; omega) _).alloc (by simp; omega) _).alloc (by simp; omega) _
  · simp [World.size_alloc]
/-- What the results' cells hold. -/
def Res (w : World) (v : Value) (at_ e : Int) (W : World) : Prop := Boxed W w.heap.size 56 v ∧ Boxed W (w.heap.size + 1) 3 (.int .i64 at_) ∧ Boxed W (w.heap.size + 1 + 1) 32 (.int .i64 e)
theorem res_own (w : World) (v : Value) (at_ e : Int) : Own (fun (_ : List (Nat × ByteArray)) W => Res w v at_ e W) := fun s X Y row hs hg hr =>
  ⟨boxed_own (β := List (Nat × ByteArray)) _ _ (fun _ => v) s X Y row hs.1 hg hr, boxed_own (β := List (Nat × ByteArray)) _ _ (fun _ => .int .i64 at_) s X Y row hs.2.1 hg hr, boxed_own (β := List (Nat × ByteArray)) _ _ (fun _ => .int .i64 e) s X Y row hs.2.2 hg hr⟩
theorem Res.kept {w : World} {v : Value} {at_ e : Int} {W W' : World} {row : Option Nat} (h : Res w v at_ e W) (hg : W.grownBy W' row) (hr : ∀ k, row = some k → w.heap.size + 3 ≤ k) : Res w v at_ e W' :=
  ⟨h.1.kept hg (fun e => by have := hr _ e.symm; omega), h.2.1.kept hg (fun e => by have := hr _ e.symm; omega), h.2.2.kept hg (fun e => by have := hr _ e.symm; omega)⟩
theorem Res.set {w : World} {v : Value} {at_ e : Int} {W : World} (h : Res w v at_ e W) (v' : Value) (a' e' : Int) :
    Res w v' a' e' (((W.setCell ⟨w.heap.size, 0, none⟩ v').setCell ⟨w.heap.size + 1, 0, none⟩ (.int .i64 a')).setCell ⟨w.heap.size + 1 + 1, 0, none⟩ (.int .i64 e')) := by
  obtain ⟨h1, h2, h3⟩ := h
  exact ⟨((h1.set v').other (by omega) _).other (by omega) _, ((h2.other (by omega) v').set _).other (by omega) _, ((h3.other (by omega) v').other (by omega) _).set _⟩
theorem below_set3 {w W : World} (h : Below w.heap.size w W) (v v' v'' : Value) : Below w.heap.size w (((W.setCell ⟨w.heap.size, 0, none⟩ v).setCell ⟨w.heap.size + 1, 0, none⟩ v').setCell ⟨w.heap.size + 1 + 1, 0, none⟩ v'') :=
  ((h.setCell (p := ⟨w.heap.size, 0, none⟩) (Nat.le_refl _) v).setCell (p := ⟨w.heap.size + 1, 0, none⟩) (by simp) v').setCell (p := ⟨w.heap.size + 1 + 1, 0, none⟩) (by simp; omega) v''
theorem fin3 {w W : World} {A : Option Addr} {n c D : Nat} {at_ e : Int} {xs : List S30} (hres : Res w (.slice A n c) at_ e W) (hrow : W.ownsRow w.heap.size 30 5 (.slice A n c) xs.length (fl30 xs)) (hB : Below w.heap.size w W)
    (hK : W.heap[D]? = some (.deferred (some []))) (hD : w.heap.size + 5 ≤ D) {tm : Array Value} (p2 : tm.getD 2 undef = .pointer (some ⟨w.heap.size, 0, none⟩)) (p3 : tm.getD 3 undef = .pointer (some ⟨w.heap.size + 1, 0, none⟩)) (p4 : tm.getD 4 undef = .pointer (some ⟨w.heap.size + 1 + 1, 0, none⟩))
    (r : List S30 × Int × Int) (hr : r = (xs, at_, e)) :
    LeavesInM Fence.wide 5 Try.prog Try.f37 tm (fun e w' => ∃ v, e = .returned (.tuple #[v, .int .i64 r.2.1, .int .i64 r.2.2]) ∧ Kd.R k30 30 w' w.heap.size (fun _ => True) v r.1 ∧ Below w.heap.size w w') [{ target := .collected D, args := #[] }] .returning W := by
  subst hr
  refine ⟨by simp, .inl ⟨_, _, rfl, run_takeDeferred hK, ?_⟩⟩
  have hg := grownBy_putObj' W D (.deferred none)
  have hres' := hres.kept hg (fun k e => by have := Option.some.inj e; omega)
  refine ⟨_, results_three rfl _ _ _ _ _ _ _ _ p2 p3 p4 (load56 _ _ _ _ _ hres'.1.cell) (load3 _ _ _ hres'.2.1.cell) (load32 _ _ _ hres'.2.2.cell), _, rfl, R30_of_own (ownsRow_putObj hrow _ hK rfl), ?_⟩
  exact hB.grown hg hB.size (fun k e => by have := Option.some.inj e; omega)
theorem Res.row {w W : World} {v v' : Value} {at_ e : Int} {m : Nat} {ys : List Value} (h : Res w v at_ e W) (hrow : W.ownsRow w.heap.size 30 5 v' m ys) (u : Value) (a' e' : Int) :
    (((W.setCell ⟨w.heap.size, 0, none⟩ u).setCell ⟨w.heap.size + 1, 0, none⟩ (.int .i64 a')).setCell ⟨w.heap.size + 1 + 1, 0, none⟩ (.int .i64 e')).ownsRow w.heap.size 30 5 v' m ys := by
  obtain ⟨h1, h2, h3⟩ := h
  have r1 := hrow.kept (grownBy_setCell' W w.heap.size u) (.inr (h1.not_row (by decide) hrow).symm)
  have g2 := h2.other (B' := w.heap.size) (by omega) u
  have g3 := h3.other (B' := w.heap.size) (by omega) u
  have r2 := r1.kept (grownBy_setCell' _ (w.heap.size + 1) (.int .i64 a')) (.inr (g2.not_row (by decide) r1).symm)
  have g3' := g3.other (B' := w.heap.size + 1) (by omega) (.int .i64 a')
  exact r2.kept (grownBy_setCell' _ (w.heap.size + 1 + 1) (.int .i64 e')) (.inr (g3'.not_row (by decide) r2).symm)
theorem set3_heap {w W : World} {D : Nat} (hD : w.heap.size + 5 ≤ D) (u v x : Value) : (((W.setCell ⟨w.heap.size, 0, none⟩ u).setCell ⟨w.heap.size + 1, 0, none⟩ v).setCell ⟨w.heap.size + 1 + 1, 0, none⟩ x).heap[D]? = W.heap[D]? :=
  ((Below.heap_setCell _ ⟨w.heap.size + 1 + 1, 0, none⟩ x D (show D ≠ w.heap.size + 1 + 1 by omega)).trans (Below.heap_setCell _ ⟨w.heap.size + 1, 0, none⟩ v D (show D ≠ w.heap.size + 1 by omega))).trans (Below.heap_setCell _ ⟨w.heap.size, 0, none⟩ u D (show D ≠ w.heap.size by omega))
theorem all_snoc {pre : List (Nat × ByteArray)} {x : Nat × ByteArray} (h : ∀ y ∈ pre, y.1 < 4096) (hx : ¬ 4096 ≤ x.1) : ∀ y ∈ pre ++ [x], y.1 < 4096 := by
  intro y hy
  simp only [List.mem_append, List.mem_singleton] at hy
  rcases hy with hy | rfl
  · exact h y hy
  · omega
set_option maxRecDepth 100000 in
set_option maxHeartbeats 2000000 in
theorem read_any (s : ByteArray) (q : ByteArray → S30) (er : ByteArray → Int) (hs : s.size ≤ 1000000)
    (hP : ∀ (ln : ByteArray) (w : World), ln.size ≤ s.size → Calls Try.prog 31 #[.string ln] w fun e w' => e = .returned (.tuple #[.agg #[.int .i64 (q ln).f0, .int .i64 (q ln).f1, .int .i64 (q ln).f2, .int .i64 (q ln).f3, .int .i64 (q ln).f4], .int .i64 (er ln)]) ∧ Below w.heap.size w w')
    (w : World) : Calls Try.prog 37 #[.string s] w fun e w' => ∃ v, e = .returned (.tuple #[v, .int .i64 (readOf s q er).2.1, .int .i64 (readOf s q er).2.2]) ∧ Kd.R k30 30 w' w.heap.size (fun _ => True) v (readOf s q er).1 ∧ Below w.heap.size w w' := by
  refine (callsIn_wide (n := 5)).1 (callsIn_of_wp_marks Try.func37 rfl trivial ?_ rfl)
  simp only [Try.ntmps37, List.size_toArray, List.length_cons, List.length_nil, Nat.reduceAdd, Nat.reduceSub, Array.replicate_succ, Array.replicate_zero, List.push_toArray, List.append_toArray, List.nil_append, List.cons_append]
  refine wpIn_wide.2 ?_
  go_wp2_with fail
  go_step3
  go_wp2_with fail
  go_step3
  go_wp2_with fail
  obtain ⟨b2, b3, b4, bo, bb, bel, hsz⟩ := five_boxes w
  revert b2 b3 b4 bo bb bel hsz
  unfold five
  generalize ((((w.alloc (.cells #[.slice none 0 0] 56)).alloc (.cells #[.int .i64 0] 3)).alloc (.cells #[.int .i64 0] 32)).alloc (.cells #[.slice none 0 0] 56)).alloc (.cells #[.int .i64 (-1)] 3) = w5
  intro b2 b3 b4 bo bb bel hsz
  refine (callsIn_wide (n := 5)).1 ((lines_in Fence.wide 5 trivial rfl s _).mono ?_)
  rintro e w3 ⟨rfl, rfl⟩
  have bs := Boxed.new w5 9 (.string s)
  have b2 := b2.alloc (.cells #[.string s] 9)
  have b3 := b3.alloc (.cells #[.string s] 9)
  have b4 := b4.alloc (.cells #[.string s] 9)
  have bo := bo.alloc (.cells #[.string s] 9)
  have bb := bb.alloc (.cells #[.string s] 9)
  have bel := bel.alloc (by omega) (.cells #[.string s] 9)
  have hs6 : w5.heap.size < (w5.alloc (.cells #[.string s] 9)).heap.size := bs.lt
  revert bs b2 b3 b4 bo bb bel hs6
  generalize w5.alloc (.cells #[.string s] 9) = w6
  intro bs b2 b3 b4 bo bb bel hs6
  obtain ⟨i0, hi, hz0, hz1, hz2⟩ := info_parts info30'
  go_wp2_with fail
  refine (wpIn_wide (n := 5)).1 ?_
  refine' wpIn_rangeFunc_ownG (F := Fence.wide) (n := 5) rfl (by omega) (gf := 44) (lb := #[.pointer (some ⟨w5.heap.size, 0, none⟩)]) rfl trivial (enters_of Try.func44 (by kernel_rfl) rfl)
    (lines_cut Fence.wide (5 - 1) trivial rfl (by omega) w5.heap.size s (by omega) _ (by omega) bs.cell) (fun h k => h.trans k) (kb_b (by omega)) (Below.refl _ _) (fun _ => rfl)
    (fun pre W => ((((∃ v, Boxed W (w.heap.size + 1 + 1 + 1) 56 v ∧ W.ownsRow w.heap.size 30 5 v (St s q er pre).1.length (fl30 (St s q er pre).1) ∧ True) ∧ Boxed W (w.heap.size + 1 + 1 + 1 + 1) 3 (.int .i64 (St s q er pre).2)) ∧ (Res w (.slice none 0 0) 0 0 W ∧ Boxed W w5.heap.size 9 (.string s))) ∧ Below w.heap.size w W) ∧ (∀ x ∈ pre, x.1 < 4096))
    (fun c pre W => (Res w (.slice none 0 0) 0 3 W ∧ Below w.heap.size w W) ∧ (c = .ret ∧ ∃ x ∈ pre, 4096 ≤ x.1))
    (OwnFrom.and (OwnFrom.and (OwnFrom.and (OwnFrom.and (Own.from (holdsRow_own w.heap.size (w.heap.size + 1 + 1 + 1) 56 30 5 (fun pre : List (Nat × ByteArray) => (St s q er pre).1.length) (fun pre : List (Nat × ByteArray) => fl30 (St s q er pre).1) (fun pre v => True)) _) (Own.from (boxed_own _ _ (fun pre : List (Nat × ByteArray) => Value.int .i64 (St s q er pre).2)) _)) (OwnFrom.and (Own.from (res_own _ _ _ _) _) (Own.from (boxed_own _ _ (fun _ : List (Nat × ByteArray) => Value.string s)) _))) (ownFrom_below (Nat.le_refl _) (by omega))) (ownFrom_pure _ _))
    (fun _ => OwnFrom.and (OwnFrom.and (Own.from (res_own _ _ _ _) _) (ownFrom_below (Nat.le_refl _) (by omega))) (OwnFrom.and (ownFrom_pure _ _) (ownFrom_pure _ _)))
    ⟨⟨⟨⟨⟨_, bo, World.ownsRow_nil _ _ _ _, trivial⟩, bb⟩, ⟨b2, b3, b4⟩, bs⟩, bel⟩, by simp⟩ _ ?assign ?body ?done ?stop
  case assign =>
    intro l x W K hK
    gi_wp2
    exact hK
  case body =>
    rintro l pre x W ⟨⟨⟨⟨hI0, hbb⟩, hres, hbs⟩, hB⟩, hall⟩ hlt
    gi_wp2
    refine ⟨trivial, (CallsIn.inRound l ((callsIn_wide (n := 2)).2 (hP _ _ (cut_size _ _)))).mono ?_⟩
    rintro e w1 ⟨rfl, hb⟩
    have hg := below_grown hb
    have hI1 := holdsRow_own w.heap.size (w.heap.size + 1 + 1 + 1) 56 30 5 (fun pre : List (Nat × ByteArray) => (St s q er pre).1.length) (fun pre : List (Nat × ByteArray) => fl30 (St s q er pre).1) (fun pre v => True) pre W w1 none hI0 hg (fun r e => by cases e)
    have hbb1 := boxed_below hbb hb
    have hres1 := hres.kept hg (fun k e => by cases e)
    have hszW : w.heap.size + 5 ≤ W.heap.size := by have := hB.size; have := hbb.lt; omega
    have hsz1 : W.heap.size ≤ w1.heap.size := hb.size
    have hB1 := hB.trans (hb.mono (by omega))
    have hkb1 : KeepsFrom w6.heap.size W w1 := KeepsFrom.of_grownBy hg (fun j e => by cases e)
    have hk51 : w5.heap.size < W.heap.size := hbs.lt
    have hbs1 := boxed_below hbs hb
    have hKB1 : KB w5.heap.size W w1 := KB.of_grownBy hg hk51 (by simp)
    clear hI0 hbb hres hb hbs
    obtain ⟨v, hv, hrow, -⟩ := hI1
    have hst := St_snoc s q er pre x
    obtain ⟨⟨o, bad⟩, hop⟩ : ∃ p, St s q er pre = p := ⟨_, rfl⟩
    have hlen := St_len s q er pre
    rw [hop] at hbb1 hrow hst hlen
    simp only at hbb1 hrow hlen
    obtain ⟨xb, hxb⟩ : ∃ xb : Obj, xb = .cells #[.int .i64 (q (cut s x.2)).f0, .int .i64 (q (cut s x.2)).f1, .int .i64 (q (cut s x.2)).f2, .int .i64 (q (cut s x.2)).f3, .int .i64 (q (cut s x.2)).f4] 30 := ⟨_, rfl⟩
    have hv := hv.alloc xb
    have hbb1 := hbb1.alloc xb
    have hrow := hrow.alloc xb
    have hbs1 := hbs1.alloc xb
    have hres1 := hres1.kept (World.grownBy_alloc w1 xb none) (fun k e => by cases e)
    have hB1 := hB1.alloc (by omega) xb
    have hkb1 := hkb1.trans ((KeepsOthers.alloc w1 xb).from w6.heap.size)
    have hKB1 := hKB1.trans (KB.of_grownBy (World.grownBy_alloc w1 xb none) (by omega) (by simp))
    have hsz2 : w1.heap.size < (w1.alloc xb).heap.size := by rw [World.size_alloc]; omega
    rw [hxb] at hv hbb1 hrow hbs1 hres1 hB1 hkb1 hKB1 hsz2
    clear hxb hg
    have hcv := hv.cell
    have hcb := hbb1.cell
    have hc2 := hres1.1.cell
    have hc3 := hres1.2.1.cell
    have hc4 := hres1.2.2.cell
    have hfv := hv.frozen
    have hfb := hbb1.frozen
    have hf2 := hres1.1.frozen
    have hf3 := hres1.2.1.frozen
    have hf4 := hres1.2.2.frozen
    have hksn : ∀ (W : World) (a : Addr) (v : Value), KeepsFrom w6.heap.size W (W.setCell a v) := fun W a v => (KeepsOthers.setCell W a v).from _
    have h5 : w.heap.size + 5 ≤ w5.heap.size := by omega
    by_cases h1 : 4096 ≤ x.1
    · have hd1 : decide ((x.1 : Int) ≥ 4096) = true := decide_eq_true (by omega)
      clear hst
      gi_wp2
      exact ⟨((hkb1.trans (hksn _ _ _)).trans (hksn _ _ _)).trans (hksn _ _ _), ⟨hres1.set _ _ _, below_set3 hB1 _ _ _⟩, rfl, x, by simp, h1⟩
    · have hd1 : decide ((x.1 : Int) ≥ 4096) = false := decide_eq_false (by omega)
      by_cases h2 : 0 ≤ bad
      · have hd2 : decide (bad ≥ 0) = true := decide_eq_true h2
        have hst2 : St s q er (pre ++ [x]) = (o, bad) := by rw [hst]; unfold stepR; exact if_pos h2
        clear hst
        gi_wp2
        refine ⟨hkb1, hKB1, ⟨⟨⟨⟨v, hv, ?_, trivial⟩, ?_⟩, hres1, hbs1⟩, hB1⟩, all_snoc hall h1⟩
        · rw [hst2]; exact hrow
        · rw [hst2]; exact hbb1
      · have hd2 : decide (bad ≥ 0) = false := decide_eq_false h2
        by_cases h3 : er (cut s x.2) = 0
        · have hd3 : (er (cut s x.2) != 0) = false := bne_eq_false_iff_eq.2 h3
          have hst2 : St s q er (pre ++ [x]) = (o ++ [q (cut s x.2)], bad) := by rw [hst]; unfold stepR; rw [if_neg h2, if_pos h3]
          clear hst
          have hol : o.length ≤ 1000001 := by omega
          have hcn := cell_five_new (w1.alloc (.cells #[.int .i64 (q (cut s x.2)).f0, .int .i64 (q (cut s x.2)).f1, .int .i64 (q (cut s x.2)).f2, .int .i64 (q (cut s x.2)).f3, .int .i64 (q (cut s x.2)).f4] 30)) (q (cut s x.2)) 30
          rw [World.size_alloc] at hcn
          have hcn' := Ln.hid hcn
          clear hcn
          gi_wp2_with (gi_at_builtin; refine wpListIn_append_own _ rfl _ _ 56 rfl w.heap.size 30 i0 (.agg #[.int .i64 0, .int .i64 0, .int .i64 0, .int .i64 0, .int .i64 0]) 5 40 Try.underlying56 hi hz0 hz1 hz2 rfl (by decide) _ _ _ rfl (hrow.alloc _) ⟨w1.heap.size + 1, 0, none⟩ 1 1 (enc30 (q (cut s x.2))) rfl rfl hcn'.out (by simp [enc30, Value.oneCell']) (by simp only [maxLen]; omega) (by omega) (by have := hB1.size; simp; omega) ?_; intro v' w4 hown' hgrow _; obtain ⟨g', cap', rfl⟩ := ownsRow_succ hown'; obtain ⟨hv1, hv2, hr2, hk2, hb2⟩ := hv.appended (by decide) hrow hB1.size (by omega) hown' hgrow; have hc1 := hv1.cell; have hf1 := hv1.frozen)
          have hgr := World.grownBy_alloc (w1.alloc (.cells #[.int .i64 (q (cut s x.2)).f0, .int .i64 (q (cut s x.2)).f1, .int .i64 (q (cut s x.2)).f2, .int .i64 (q (cut s x.2)).f3, .int .i64 (q (cut s x.2)).f4] 30)) (.cells #[.int .i64 (q (cut s x.2)).f0, .int .i64 (q (cut s x.2)).f1, .int .i64 (q (cut s x.2)).f2, .int .i64 (q (cut s x.2)).f3, .int .i64 (q (cut s x.2)).f4] 30) none
          have n3 := (hbb1.kept hgr (by simp)).kept hgrow (hbb1.not_row (by decide) hrow)
          have n9 := (hbs1.kept hgr (by simp)).kept hgrow (hbs1.not_row (by decide) hrow)
          have r2 := (hres1.1.kept hgr (by simp)).kept hgrow (hres1.1.not_row (by decide) hrow)
          have r3 := (hres1.2.1.kept hgr (by simp)).kept hgrow (hres1.2.1.not_row (by decide) hrow)
          have r4 := (hres1.2.2.kept hgr (by simp)).kept hgrow (hres1.2.2.not_row (by decide) hrow)
          have n9' := n9.other (B' := w.heap.size + 1 + 1 + 1) (by omega) (.slice (some ⟨g', 0, none⟩) (o.length + 1) cap')
          refine ⟨hkb1.trans (hk2.from _), hKB1.trans (Eq.trans n9' (Eq.symm hbs1)), ⟨⟨⟨⟨_, hv2, ?_, trivial⟩, ?_⟩, ⟨r2.other (by omega) _, r3.other (by omega) _, r4.other (by omega) _⟩, n9'⟩, hB1.trans hb2⟩, all_snoc hall h1⟩
          · rw [hst2, fl30_snoc]
            simpa using hr2
          · rw [hst2]; exact n3.other (by omega) _
        · have hd3 : (er (cut s x.2) != 0) = true := bne_iff_ne.2 h3
          have hst2 : St s q er (pre ++ [x]) = (o, (x.1 : Int)) := by rw [hst]; unfold stepR; rw [if_neg h2, if_neg h3]
          clear hst
          gi_wp2
          have hgs := grownBy_setCell' (w1.alloc (.cells #[.int .i64 (q (cut s x.2)).f0, .int .i64 (q (cut s x.2)).f1, .int .i64 (q (cut s x.2)).f2, .int .i64 (q (cut s x.2)).f3, .int .i64 (q (cut s x.2)).f4] 30)) (w.heap.size + 1 + 1 + 1 + 1) (.int .i64 (x.1 : Int))
          refine ⟨hkb1.trans (hksn _ _ _), hKB1.trans (KB.of_grownBy hgs (by omega) (fun e => by have := Option.some.inj e; omega)), ⟨⟨⟨⟨v, hv.other (by omega) _, ?_, trivial⟩, ?_⟩, hres1.kept hgs (fun k e => by have := Option.some.inj e; omega), hbs1.other (by omega) _⟩, hB1.setCell (p := ⟨w.heap.size + 1 + 1 + 1 + 1, 0, none⟩) (by simp; omega) _⟩, all_snoc hall h1⟩
          · rw [hst2]
            exact hrow.kept hgs (.inr (hbb1.not_row (by decide) hrow).symm)
          · rw [hst2]; exact hbb1.set _
  case done =>
    rintro D ys W hD rfl ⟨⟨⟨⟨⟨v, hv, hrow, -⟩, hbb⟩, hres, hbs⟩, hB⟩, hall⟩ hK
    obtain ⟨Av, nv, cv, rfl⟩ : ∃ A n c, v = .slice A n c := by
      rcases hrow.2 with ⟨rfl, _⟩ | ⟨g, cap, cur, rfl, _⟩ <;> exact ⟨_, _, _, rfl⟩
    have hlen : ¬ 4096 < (linesOf s).length := by
      intro h
      obtain ⟨y, hy⟩ := prs_mem (linesOf s) 4096 h
      exact absurd (hall _ hy) (by omega)
    have hcv := hv.cell
    have hcb := hbb.cell
    have hc2 := hres.1.cell
    have hc3 := hres.2.1.cell
    have hc4 := hres.2.2.cell
    have hfv := hv.frozen
    have hfb := hbb.frozen
    have hf2 := hres.1.frozen
    have hf3 := hres.2.1.frozen
    have hf4 := hres.2.2.frozen
    by_cases hb : 0 ≤ (St s q er (prs (linesOf s))).2
    · have hd : decide ((St s q er (prs (linesOf s))).2 ≥ 0) = true := decide_eq_true hb
      go_wp2_with fail
      go_region
      go_wp2_with fail
      rw [Exit.noGoto_ret]
      have hro : readOf s q er = ([], (St s q er (prs (linesOf s))).2, 32) := by unfold readOf; rw [if_neg hlen, if_pos hb]
      have f1 := hres.set (.slice none 0 0) (St s q er (prs (linesOf s))).2 32
      have f2 := below_set3 hB (.slice none 0 0) (.int .i64 (St s q er (prs (linesOf s))).2) (.int .i64 32)
      have f3 := (set3_heap (w := w) (D := D) (by omega) (.slice none 0 0) (.int .i64 (St s q er (prs (linesOf s))).2) (.int .i64 32)).trans hK
      revert f1 f2 f3
      generalize (((W.setCell { block := w.heap.size, off := 0 } (Value.slice none 0 0)).setCell { block := w.heap.size + 1, off := 0 } (Value.int IntKind.i64 (St s q er (prs (linesOf s))).snd)).setCell { block := w.heap.size + 1 + 1, off := 0 } (Value.int IntKind.i64 32)) = W9
      intro f1 f2 f3
      refine fin3 (W := W9.drew) (xs := []) (A := none) (n := 0) (c := 0) (at_ := (St s q er (prs (linesOf s))).2) (e := 32) f1 (World.ownsRow_nil _ _ _ _) ⟨f2.os, f2.tape, f2.output, f2.size, f2.block⟩ f3 (by omega) ?_ ?_ ?_ _ hro
      · rfl
      · rfl
      · rfl
    · have hd : decide ((St s q er (prs (linesOf s))).2 ≥ 0) = false := decide_eq_false hb
      go_wp2_with fail
      have hro : readOf s q er = ((St s q er (prs (linesOf s))).1, 0, 0) := by unfold readOf; rw [if_neg hlen, if_neg (by omega)]
      exact fin3 (hres.set (.slice Av nv cv) 0 0) (hres.row hrow _ _ _) (below_set3 hB _ _ _) ((set3_heap (by omega) _ _ _).trans hK) (by omega) rfl rfl rfl _ hro
  case stop =>
    rintro D c pre W hD hto ⟨⟨hres, hB⟩, rfl, x, hx, h4⟩ hK
    gi_wp2
    rw [Exit.noGoto_ret]
    have hro : readOf s q er = ([], 0, 3) := by
      unfold readOf
      rw [if_pos]
      obtain ⟨r, hr⟩ := prs_prefix hto
      have hm : x ∈ prs (linesOf s) := by rw [hr]; exact List.mem_append_left _ hx
      have := prs_bound hm
      omega
    exact fin3 hres (World.ownsRow_nil _ _ _ _) hB hK (by omega) rfl rfl rfl _ hro
end Go.Proofs.Ytebjdjdlpmplpaa.Ln
