/- What rts.Makers and the reference's Makers make: their rows. -/
import Derived.Test.YtdhfnfoimbijmaaPa0
namespace Go.Proofs.Ytdhfnfoimbijmaa.Mk
open Go.RowKit Go.Proofs.YtdhfnfoimbijmaaW.PrintWords Go.Proofs.YtdhfnfoimbijmaaW.PrintLast Go.Proofs.YtdhfnfoimbijmaaW.PrintMore Pa
set_option linter.unusedSimpArgs false
set_option linter.unusedVariables false
def one : S26 := ⟨1, 0, ⟨#[]⟩, []⟩
def lst : S26 := ⟨2, 9, ⟨#[108, 105, 115, 116]⟩, [one]⟩
theorem one_M (w : World) (b : Nat) (ok : Nat → Prop) : k26.M w b ok one [.int .i64 1, .int .i64 0, .string ⟨#[]⟩, .slice none 0 0] := k26_mkM w b ok one (Kd.R_nil _ _ _ _ _)
/-- Four cells of a block, one by one. -/
theorem four {w : World} {g t : Nat} {a b c d : Value} (h : w.heap[g]? = some (.cells #[a, b, c, d] t (0, 0))) :
    w.cell? ⟨g, 0, none⟩ = some a ∧ w.cell? ⟨g, 1, none⟩ = some b ∧ w.cell? ⟨g, 2, none⟩ = some c ∧ w.cell? ⟨g, 3, none⟩ = some d ∧ w.frozen? ⟨g, 0, none⟩ = false ∧ w.frozen? ⟨g, 1, none⟩ = false ∧ w.frozen? ⟨g, 2, none⟩ = false ∧ w.frozen? ⟨g, 3, none⟩ = false :=
  ⟨(blk_cell h 0).trans rfl, (blk_cell h 1).trans rfl, (blk_cell h 2).trans rfl, (blk_cell h 3).trans rfl, blk_frozen h 0, blk_frozen h 1, blk_frozen h 2, blk_frozen h 3⟩
set_option maxRecDepth 100000 in
set_option maxHeartbeats 4000000 in
theorem list1 (w : World) (p : Nat) (hp : w.heap[p]? = some (.cells #[.int .i64 1, .int .i64 0, .string ⟨#[]⟩, .slice none 0 0] 26 (0, 0))) :
    Calls Try.prog 41 #[.pointer (some ⟨p, 0, none⟩)] w fun e w' => ∃ v, e = .returned (.agg #[.int .i64 2, .int .i64 9, .string ⟨#[108, 105, 115, 116]⟩, v]) ∧ k26.R 26 w' w.heap.size (fun _ => True) v [one] ∧ Below w.heap.size w w' := by
  have hu26 := Try.underlying26
  have HP := Aside0.mk hp
  clear hp
  go_enter Try.func41, Try.ntmps41
  go_wp2_with (first
    | ((with_reducible refine gate_dst (N := 1) rfl ?_); refine box_event ?hg (N := 1) ?hd (cs := #[.int .i64 0, .int .i64 0, .string (⟨#[]⟩ : ByteArray), .slice none 0 0]) (t := 26) ?hr ?_; (case hd => rfl); (case hg => rfl); (case hr => first | (go_simp; done) | (go_simp; rfl)); intro g hg w1 hbox hb; have HQ := Aside0.mk (blk_below HP.out hb); have HG := Aside0.mk hbox; have HB := Aside0.mk hb; have HE := Aside0.mk hg; obtain ⟨p0, p1, p2, p3, -⟩ := four HQ.out; clear hb hbox hg)
    | ((with_reducible refine gate_dst (N := 3) rfl ?_); refine Kd.R_lit k26 _ 26 ?hg (N := 3) ?hd (xs := [one]) (inner := [.int .i64 1, .int .i64 0, .string ⟨#[]⟩, .slice none 0 0]) (ok := fun _ => True) (okp := fun _ => True) ?hr ?hp (fun _ hk => hk) trivial (Below.refl _ _) (Nat.le_refl _) (by simp) ?_; (case hd => rfl); (case hg => rfl); (case hr => first | (go_simp; done) | (go_simp; rfl)); (case hp => exact Reps.c4 (one_M _ _ _) (Reps.none _ _)); intro v3 w2 ho hb hgr hnew; obtain ⟨A3, c3, rfl⟩ := Kd.R_slice ho; have HR := Aside0.mk ho; have HB2 := Aside0.mk (below_step HB.out hb); have HG2 := Aside0.mk (blk_below HG.out hb); obtain ⟨g0, g1, g2, g3, f0, f1, f2, f3⟩ := four HG2.out; clear ho hb hgr hnew p0 p1 p2 p3))
  have hge : w.heap.size ≤ g := Nat.le_of_eq HE.out.symm
  have b1 := blk_put HG2.out 0 (.int .i64 2) rfl
  have b2 := blk_put b1 1 (.int .i64 9) rfl
  have b3 := blk_put b2 2 (.string ⟨#[108, 105, 115, 116]⟩) rfl
  have b4 := blk_put b3 3 (.slice A3 1 c3) rfl
  refine bodyPost_ret (results_cell_row rfl _ _ g 26 #[.int .i64 2, .int .i64 9, .string ⟨#[108, 105, 115, 116]⟩, .slice A3 1 c3] (0, 0) _ rfl b4 Try.underlying26 rfl (by kernel_rfl)) rfl ⟨_, rfl, ?_, ?_⟩
  · exact Kd.R_lower (Kd.R_mono (Kd.R_far (p := ⟨g, 3, none⟩) (Kd.R_far (p := ⟨g, 2, none⟩) (Kd.R_far (p := ⟨g, 1, none⟩) (Kd.R_far (p := ⟨g, 0, none⟩) (Kd.R_newB HR.out HG.out) (fun _ hk => hk.2) _) (fun _ hk => hk.2) _) (fun _ hk => hk.2) _) (fun _ hk => hk.2) _) (fun _ _ => trivial)) HB.out.size
  · exact below_set (below_set (below_set (below_set HB2.out hge) hge) hge) hge
def tru : S26 := ⟨2, 8, ⟨#[98, 111, 111, 108]⟩, []⟩
def exn : S26 := ⟨2, 4, ⟨#[101, 120, 110]⟩, []⟩
def tup : S26 := ⟨2, 6, ⟨#[42]⟩, [one, lst]⟩
def m0 : S28 := ⟨⟨#[102, 97, 108, 115, 101]⟩, 0, false, 0, z26, tru⟩
def m1 : S28 := ⟨⟨#[116, 114, 117, 101]⟩, 1, false, 0, z26, tru⟩
def m2 : S28 := ⟨⟨#[110, 105, 108]⟩, 0, false, 1, z26, lst⟩
def m3 : S28 := ⟨⟨#[58, 58]⟩, 1, true, 1, tup, lst⟩
def nms : List ByteArray := [⟨#[77, 97, 116, 99, 104]⟩, ⟨#[66, 105, 110, 100]⟩, ⟨#[68, 105, 118]⟩, ⟨#[67, 104, 114]⟩, ⟨#[83, 117, 98, 115, 99, 114, 105, 112, 116]⟩, ⟨#[69, 113, 117, 97, 108]⟩]
def mx (i : Nat) : S28 := ⟨nms.getD i ByteArray.empty, i, false, 0, z26, exn⟩
def mks (i : Nat) : List S28 := [m0, m1, m2, m3] ++ (List.range i).map mx
theorem mks_succ (i : Nat) : mks (i + 1) = mks i ++ [mx i] := by simp [mks, List.range_succ]
theorem mks_len (i : Nat) : (mks i).length = 4 + i := by simp [mks]; omega
/-- A row that is laid out at once. -/
theorem lit_R {α : Type} (d : Kd α) {W : World} {base e : Nat} {xs : List α} {inner : List Value} {okp : Nat → Prop} (hrep : Reps (d.M W base okp) d.sz xs inner) (hbase : base ≤ W.heap.size) (hm : xs.length ≤ 9223372036854775807) :
    d.R e (W.alloc (.cells inner.toArray e)) base (fun _ => True) (.slice (some ⟨W.heap.size, 0, none⟩) xs.length xs.length) xs := by
  refine ⟨fun k hk => trivial, inner, ?_, ?_⟩
  · have h2 := World.ownsRow_lit (base := base) (e := e) (size := d.sz) W inner.toArray xs.length hbase (by simpa [maxLen] using hm) (by simpa using hrep.1)
    simpa using h2
  · refine hrep.imp_ (fun p c hp => d.M_mono (fun k hk => ⟨trivial, fun he => ?_⟩) (Kd.M_below (d.M_bound hp) (below_alloc (Below.refl _ _) _)))
    have h3 : k = W.heap.size := by simpa [Value.ownBlock] using he
    have := hk.2.2.1
    omega
structure Bun (w W : World) (g q : Nat) (vs ts : List Value) : Prop where
  y : W.heap[g]? = some (.cells #[.int .i64 2, .int .i64 8, .string ⟨#[98, 111, 111, 108]⟩, .slice none 0 0] 26 (0, 0))
  o : W.heap[q]? = some (.cells #[.int .i64 1, .int .i64 0, .string ⟨#[]⟩, .slice none 0 0] 26 (0, 0))
  b : Below w.heap.size w W
  l : ∀ v ∈ vs, k26.R 26 W w.heap.size (fun _ => True) v [one]
  t : ∀ v ∈ ts, k26.R 26 W w.heap.size (fun _ => True) v [one, lst]
theorem Bun.list {w W w' : World} {g q : Nat} {vs ts : List Value} {v : Value} (h : Bun w W g q vs ts) (hr : k26.R 26 w' W.heap.size (fun _ => True) v [one]) (hb : Below W.heap.size W w') : Bun w w' g q (v :: vs) ts :=
  ⟨blk_below h.y hb, blk_below h.o hb, below_step h.b hb, fun u hu => by
    rcases List.mem_cons.1 hu with rfl | hu
    · exact Kd.R_lower hr h.b.size
    · exact Kd.R_below (h.l u hu) hb, fun u hu => Kd.R_below (h.t u hu) hb⟩
theorem Bun.drew {w W : World} {g q : Nat} {vs ts : List Value} (h : Bun w W g q vs ts) : Bun w W.drew g q vs ts := ⟨h.y, h.o, below_drew h.b, fun u hu => Kd.R_drew (h.l u hu), fun u hu => Kd.R_drew (h.t u hu)⟩
theorem lst_M (w : World) (b : Nat) (ok : Nat → Prop) {A : Option Addr} {n c : Nat} (h : k26.R 26 w b ok (.slice A n c) [one]) : k26.M w b ok lst [.int .i64 2, .int .i64 9, .string ⟨#[108, 105, 115, 116]⟩, .slice A n c] := k26_mkM w b ok lst h
theorem Bun.tup {w W : World} {g q : Nat} {vs ts : List Value} {A : Option Addr} {n c : Nat} (h : Bun w W g q vs ts) (hv : Value.slice A n c ∈ vs) :
    Bun w (W.alloc (.cells #[.int .i64 1, .int .i64 0, .string ⟨#[]⟩, .slice none 0 0, .int .i64 2, .int .i64 9, .string ⟨#[108, 105, 115, 116]⟩, .slice A n c] 26)) g q vs (.slice (some ⟨W.heap.size, 0, none⟩) 2 2 :: ts) :=
  ⟨blk_alloc h.y _, blk_alloc h.o _, below_alloc h.b _, fun u hu => Kd.R_alloc (h.l u hu) _, fun u hu => by
    rcases List.mem_cons.1 hu with rfl | hu
    · exact lit_R k26 (xs := [one, lst]) (inner := [.int .i64 1, .int .i64 0, .string ⟨#[]⟩, .slice none 0 0, .int .i64 2, .int .i64 9, .string ⟨#[108, 105, 115, 116]⟩, .slice A n c]) (Reps.c4 (one_M _ _ _) (Reps.c4 (lst_M _ _ _ (h.l _ hv)) (Reps.none _ _))) h.b.size (by simp)
    · exact Kd.R_alloc (h.t u hu) _⟩
theorem kp {W : World} {g q : Nat} (y : W.heap[g]? = some (.cells #[.int .i64 2, .int .i64 8, .string ⟨#[98, 111, 111, 108]⟩, .slice none 0 0] 26 (0, 0))) (o : W.heap[q]? = some (.cells #[.int .i64 1, .int .i64 0, .string ⟨#[]⟩, .slice none 0 0] 26 (0, 0))) :
    (W.cell? ⟨g, 0, none⟩ = some (.int .i64 2) ∧ W.cell? ⟨g, 1, none⟩ = some (.int .i64 8) ∧ W.cell? ⟨g, 2, none⟩ = some (.string ⟨#[98, 111, 111, 108]⟩) ∧ W.cell? ⟨g, 3, none⟩ = some (.slice none 0 0)) ∧ W.cell? ⟨q, 0, none⟩ = some (.int .i64 1) ∧ W.cell? ⟨q, 1, none⟩ = some (.int .i64 0) ∧ W.cell? ⟨q, 2, none⟩ = some (.string ⟨#[]⟩) ∧ W.cell? ⟨q, 3, none⟩ = some (.slice none 0 0) := by
  obtain ⟨y0, y1, y2, y3, -⟩ := four y
  obtain ⟨o0, o1, o2, o3, -⟩ := four o
  exact ⟨⟨y0, y1, y2, y3⟩, o0, o1, o2, o3⟩
theorem Bun.all {w W : World} {g q : Nat} {vs ts : List Value} {A A2 T : Option Addr} {n c n2 c2 tn tc : Nat} (h : Bun w W g q vs ts) (h1 : Value.slice A n c ∈ vs) (h2 : Value.slice A2 n2 c2 ∈ vs) (h3 : Value.slice T tn tc ∈ ts) :
    k28.R 28 (W.alloc (.cells (([.string ⟨#[102, 97, 108, 115, 101]⟩, .int .i64 0, .bool false, .int .i64 0, .int .i64 0, .int .i64 0, .string ⟨#[]⟩, .slice none 0 0, .int .i64 2, .int .i64 8, .string ⟨#[98, 111, 111, 108]⟩, .slice none 0 0] ++ ([.string ⟨#[116, 114, 117, 101]⟩, .int .i64 1, .bool false, .int .i64 0, .int .i64 0, .int .i64 0, .string ⟨#[]⟩, .slice none 0 0, .int .i64 2, .int .i64 8, .string ⟨#[98, 111, 111, 108]⟩, .slice none 0 0] ++ ([.string ⟨#[110, 105, 108]⟩, .int .i64 0, .bool false, .int .i64 1, .int .i64 0, .int .i64 0, .string ⟨#[]⟩, .slice none 0 0, .int .i64 2, .int .i64 9, .string ⟨#[108, 105, 115, 116]⟩, .slice A n c] ++ [.string ⟨#[58, 58]⟩, .int .i64 1, .bool true, .int .i64 1, .int .i64 2, .int .i64 6, .string ⟨#[42]⟩, .slice T tn tc, .int .i64 2, .int .i64 9, .string ⟨#[108, 105, 115, 116]⟩, .slice A2 n2 c2]))) : List Value).toArray 28)) w.heap.size (fun _ => True) (.slice (some ⟨W.heap.size, 0, none⟩) 4 4) (mks 0) ∧ Below w.heap.size w (W.alloc (.cells (([.string ⟨#[102, 97, 108, 115, 101]⟩, .int .i64 0, .bool false, .int .i64 0, .int .i64 0, .int .i64 0, .string ⟨#[]⟩, .slice none 0 0, .int .i64 2, .int .i64 8, .string ⟨#[98, 111, 111, 108]⟩, .slice none 0 0] ++ ([.string ⟨#[116, 114, 117, 101]⟩, .int .i64 1, .bool false, .int .i64 0, .int .i64 0, .int .i64 0, .string ⟨#[]⟩, .slice none 0 0, .int .i64 2, .int .i64 8, .string ⟨#[98, 111, 111, 108]⟩, .slice none 0 0] ++ ([.string ⟨#[110, 105, 108]⟩, .int .i64 0, .bool false, .int .i64 1, .int .i64 0, .int .i64 0, .string ⟨#[]⟩, .slice none 0 0, .int .i64 2, .int .i64 9, .string ⟨#[108, 105, 115, 116]⟩, .slice A n c] ++ [.string ⟨#[58, 58]⟩, .int .i64 1, .bool true, .int .i64 1, .int .i64 2, .int .i64 6, .string ⟨#[42]⟩, .slice T tn tc, .int .i64 2, .int .i64 9, .string ⟨#[108, 105, 115, 116]⟩, .slice A2 n2 c2]))) : List Value).toArray 28)) := by
  refine ⟨lit_R k28 (xs := [m0, m1, m2, m3]) (okp := fun _ => True) ?_ h.b.size (by simp), below_alloc h.b _⟩
  refine Reps.front (k28_mkM W _ _ m0 (Kd.R_nil _ _ _ _ _) (Kd.R_nil _ _ _ _ _)) rfl ?_ rfl
  refine Reps.front (k28_mkM W _ _ m1 (Kd.R_nil _ _ _ _ _) (Kd.R_nil _ _ _ _ _)) rfl ?_ rfl
  refine Reps.front (k28_mkM W _ _ m2 (Kd.R_nil _ _ _ _ _) (h.l _ h1)) rfl ?_ rfl
  exact Reps.front (cs := []) (k28_mkM W _ _ m3 (h.t _ h3) (h.l _ h2)) rfl (Reps.none _ _) rfl
theorem grab {R B : World → Prop} {W : World} (h : R W ∧ B W) : ∃ W3, W3 = W ∧ R W3 ∧ B W3 := ⟨W, rfl, h⟩
theorem info28 : (Try.prog.info? 28).map (fun i => (i.zero, i.size, i.bytes)) = some (some (.agg #[.string (⟨#[]⟩ : ByteArray), .int .i64 0, .bool false, .int .i64 0, .int .i64 0, .int .i64 0, .string (⟨#[]⟩ : ByteArray), .slice none 0 0, .int .i64 0, .int .i64 0, .string (⟨#[]⟩ : ByteArray), .slice none 0 0]), 12, 152) := by kernel_rfl
set_option maxRecDepth 100000 in
set_option maxHeartbeats 4000000 in
theorem makers (w : World) :
    Calls Try.prog 13 #[] w fun e w' => ∃ v, e = .returned v ∧ k28.R 28 w' w.heap.size (fun _ => True) v (mks 6) ∧ Below w.heap.size w w' := by
  have hu26 := Try.underlying26
  have hu28 := Try.underlying28
  go_enter Try.func13, Try.ntmps13
  go_wp2_with (first
    | ((with_reducible refine gate_dst (N := 1) rfl ?_); refine box_event ?hg (N := 1) ?hd (cs := #[.int .i64 0, .int .i64 0, .string (⟨#[]⟩ : ByteArray), .slice none 0 0]) (t := 26) ?hr ?_; (case hd => rfl); (case hg => rfl); (case hr => first | (go_simp; done) | (go_simp; rfl)); intro g hg w1 hbox hb; have HG := Aside0.mk hbox; have HB := Aside0.mk hb; have HE := Aside0.mk hg; obtain ⟨g0, g1, g2, g3, f0, f1, f2, f3⟩ := four hbox; clear hb hbox hg)
    | ((with_reducible refine gate_dst (N := 2) rfl ?_); refine box_event ?hg (N := 2) ?hd (cs := #[.int .i64 0, .int .i64 0, .string (⟨#[]⟩ : ByteArray), .slice none 0 0]) (t := 26) ?hr ?_; (case hd => rfl); (case hg => rfl); (case hr => first | (go_simp; done) | (go_simp; rfl)); intro q hq w2 hbox hb; have HG2 := Aside0.mk (blk_below (blk_put (blk_put (blk_put (blk_put HG.out 0 (.int .i64 2) rfl) 1 (.int .i64 8) rfl) 2 (.string ⟨#[98, 111, 111, 108]⟩) rfl) 3 (.slice none 0 0) rfl) hb); have hge : w.heap.size ≤ g := Nat.le_of_eq HE.out.symm; have HB2 := Aside0.mk (below_step (below_set (below_set (below_set (below_set HB.out hge) hge) hge) hge) hb); have HP := Aside0.mk hbox; have HE2 := Aside0.mk hq; have hgq : g ≠ q := Nat.ne_of_lt (by rw [hq]; simp only [World.size_setCell]; exact blk_lt HG.out); clear g0 g1 g2 g3 f0 f1 f2 f3; obtain ⟨p0, p1, p2, p3, f0, f1, f2, f3⟩ := four hbox; clear hb hbox hq))
  generalize hW : (((w2.setCell ⟨q, 0, none⟩ (.int .i64 1)).setCell ⟨q, 1, none⟩ (.int .i64 0)).setCell ⟨q, 2, none⟩ (.string ⟨#[]⟩)).setCell ⟨q, 3, none⟩ (.slice none 0 0) = W
  have bun : Bun w W g q [] [] := by
    rw [← hW]
    refine ⟨blk_far (blk_far (blk_far (blk_far HG2.out hgq _) hgq _) hgq _) hgq _, blk_put (blk_put (blk_put (blk_put HP.out 0 _ rfl) 1 _ rfl) 2 _ rfl) 3 _ rfl, ?_, fun _ h => absurd h (by simp), fun _ h => absurd h (by simp)⟩
    have hge : w.heap.size ≤ q := by rw [HE2.out]; simp only [World.size_setCell]; exact HB.out.size
    exact below_set (below_set (below_set (below_set HB2.out hge) hge) hge) hge
  clear hW HG HB HE HG2 HB2 HP HE2 p0 p1 p2 p3 f0 f1 f2 f3
  obtain ⟨y0, y1, y2, y3, -⟩ := four bun.y
  obtain ⟨o0, o1, o2, o3, -⟩ := four bun.o
  go_region_held3 (fun W' => (W'.cell? ⟨g, 0, none⟩ = some (.int .i64 2) ∧ W'.cell? ⟨g, 1, none⟩ = some (.int .i64 8) ∧ W'.cell? ⟨g, 2, none⟩ = some (.string ⟨#[98, 111, 111, 108]⟩) ∧ W'.cell? ⟨g, 3, none⟩ = some (.slice none 0 0)) ∧ W'.cell? ⟨q, 0, none⟩ = some (.int .i64 1) ∧ W'.cell? ⟨q, 1, none⟩ = some (.int .i64 0) ∧ W'.cell? ⟨q, 2, none⟩ = some (.string ⟨#[]⟩) ∧ W'.cell? ⟨q, 3, none⟩ = some (.slice none 0 0))
    (first | exact kp bun.y bun.o | exact kp (blk_alloc bun.y _) (blk_alloc bun.o _) | exact kp (blk_alloc (blk_alloc bun.y _) _) (blk_alloc (blk_alloc bun.o _) _))
    (first
      | (go_at_call 41; (first | (have bun0 := bun; have hc := list1 _ q bun0.o; (with_reducible refine Calls.mono hc ?_); clear hc) | (have bun0 := bun.drew; have hc := list1 _ q bun0.o; (with_reducible refine Calls.mono hc ?_); clear hc) | (have bun0 := (bun.tup List.mem_cons_self); have hc := list1 _ q bun0.o; (with_reducible refine Calls.mono hc ?_); clear hc) | (have bun0 := (bun.tup List.mem_cons_self).drew; have hc := list1 _ q bun0.o; (with_reducible refine Calls.mono hc ?_); clear hc)); rintro e w' ⟨v, rfl, hr, hb⟩; obtain ⟨A3, c3, rfl⟩ := Kd.R_slice hr; replace hr : k26.R 26 w' _ (fun _ => True) (.slice A3 1 c3) [one] := hr; replace bun := bun0.list hr hb; clear bun0 y0 y1 y2 y3 o0 o1 o2 o3; obtain ⟨y0, y1, y2, y3, -⟩ := four bun.y; obtain ⟨o0, o1, o2, o3, -⟩ := four bun.o; clear hr hb))
  case' refine_2.refine_3.refine_3.refine_3.refine_3.refine_3.refine_3.refine_3.refine_3.refine_1.refine_2.refine_3.refine_1.refine_2.refine_1.refine_2.refine_3.refine_1.refine_2.refine_3.refine_1.refine_2.refine_3 =>
    have hall := bun.all (List.mem_cons_of_mem _ (List.mem_cons_of_mem _ List.mem_cons_self)) List.mem_cons_self List.mem_cons_self
  case' refine_2.refine_3.refine_3.refine_3.refine_3.refine_3.refine_3.refine_3.refine_3.refine_1.refine_2.refine_3.refine_1.refine_2.refine_2.refine_1.refine_2.refine_1.refine_2.refine_3.refine_3.refine_1.refine_2.refine_3 =>
    have hall := (bun.tup (List.mem_cons_of_mem _ List.mem_cons_self)).all (List.mem_cons_of_mem _ (List.mem_cons_of_mem _ List.mem_cons_self)) List.mem_cons_self List.mem_cons_self
  all_goals (
    simp only [List.cons_append, List.nil_append, World.size_alloc] at hall
    clear bun y0 y1 y2 y3 o0 o1 o2 o3
    obtain ⟨W3, e, HR, HB⟩ := grab (R := fun W => k28.R 28 W w.heap.size (fun _ => True) _ (mks 0)) (B := fun W => Below w.heap.size w W) hall
    rw [← e]
    clear e hall
    have hB := Aside0.mk HB
    have hR := Aside0.mk HR
    clear HR HB
    have HN := Aside0.mk (lit_R Kd.string (W := W3) (base := w.heap.size) (e := 9) (xs := nms) (inner := [.string ⟨#[77, 97, 116, 99, 104]⟩, .string ⟨#[66, 105, 110, 100]⟩, .string ⟨#[68, 105, 118]⟩, .string ⟨#[67, 104, 114]⟩, .string ⟨#[83, 117, 98, 115, 99, 114, 105, 112, 116]⟩, .string ⟨#[69, 113, 117, 97, 108]⟩]) (okp := fun _ => True) (Kd.reps_scalar nms) hB.out.size (by decide))
    have hR4 := Aside0.mk (Kd.R_alloc hR.out (.cells #[.string ⟨#[77, 97, 116, 99, 104]⟩, .string ⟨#[66, 105, 110, 100]⟩, .string ⟨#[68, 105, 118]⟩, .string ⟨#[67, 104, 114]⟩, .string ⟨#[83, 117, 98, 115, 99, 114, 105, 112, 116]⟩, .string ⟨#[69, 113, 117, 97, 108]⟩] 9))
    have hB4 := Aside0.mk (below_alloc hB.out (.cells #[.string ⟨#[77, 97, 116, 99, 104]⟩, .string ⟨#[66, 105, 110, 100]⟩, .string ⟨#[68, 105, 118]⟩, .string ⟨#[67, 104, 114]⟩, .string ⟨#[83, 117, 98, 115, 99, 114, 105, 112, 116]⟩, .string ⟨#[69, 113, 117, 97, 108]⟩] 9))
    go_wp2_with fail
    go_loopw [4, 28] (fun v i wr => ∃ k : Nat, k ≤ 6 ∧ i = .int .i64 (k : Int) ∧ k28.R 28 wr w.heap.size (fun _ => True) v (mks k) ∧ Kd.string.R 9 wr w.heap.size (fun _ => True) (.slice (some ⟨W3.heap.size, 0, none⟩) 6 6) nms ∧ Below w.heap.size w wr) (fun _ i _ => 6 - (intOf i).toNat)
    case atStart => exact ⟨0, by omega, rfl, hR4.out, HN.out, hB4.out⟩
    case round =>
      clear hB hR HN hR4 hB4
      obtain ⟨k, hk, rfl, hR, hN, hB⟩ := hrel
      obtain ⟨Av, cv, rfl⟩ := Kd.R_slice hR
      have hml := mks_len k
      by_cases h6 : k < 6
      · have d1 : decide ((k : Int) < 6) = true := decide_eq_true (by omega)
        have d0 : decide (0 ≤ (k : Int)) = true := decide_eq_true (by omega)
        have hcn := (Kd.R_celln ByteArray.empty hN (k : Int) (by omega) (by omega)).1
        have hrn : rdOf ByteArray.empty nms (k : Int) = nms.getD k ByteArray.empty := by simp [rdOf]
        rw [hrn, Int.toNat_natCast] at hcn
        clear hrn
        have HR := Aside0.mk hR
        have HB := Aside0.mk hB
        have HN := Aside0.mk hN
        have HM := Aside0.mk hml
        clear hR hB hN hml
        go_wp2_with ((with_reducible refine gate_builtin (b := .append) (xs := #[.tmp 33, .tmp 38]) rfl ?_); at_builtin; refine Kd.R_append k28 (w0 := w) w.heap.size rfl (.tmp 33) (.tmp 38) 22 28 (.agg #[.string (⟨#[]⟩ : ByteArray), .int .i64 0, .bool false, .int .i64 0, .int .i64 0, .int .i64 0, .string (⟨#[]⟩ : ByteArray), .slice none 0 0, .int .i64 0, .int .i64 0, .string (⟨#[]⟩ : ByteArray), .slice none 0 0]) 152 rfl Try.underlying22 info28 rfl (by decide) (by omega) (.slice Av (mks k).length cv) (mks k) (mx k) [.string (nms.getD k ByteArray.empty), .int .i64 (k : Int), .bool false, .int .i64 0, .int .i64 0, .int .i64 0, .string (⟨#[]⟩ : ByteArray), .slice none 0 0, .int .i64 2, .int .i64 4, .string ⟨#[101, 120, 110]⟩, .slice none 0 0] (fun _ => True) (fun _ => False) rfl rfl (k28_mkM _ _ _ (mx k) (Kd.R_nil _ _ _ _ _) (Kd.R_nil _ _ _ _ _)) (fun _ hk => hk.elim) (fun _ _ => trivial) HR.out HB.out HB.out.size (by rw [HM.out]; omega) ?_; intro v5 w5 ho5 hbel5 hg5 hat5; have HR5 := Aside0.mk ho5; have HB5 := Aside0.mk hbel5; have HN5 := Aside0.mk (Kd.R_over HN.out HR.out (by decide) hg5); clear ho5 hbel5 hg5 hat5)
        refine ⟨⟨k + 1, by omega, by simp, by rw [mks_succ]; exact HR5.out, HN5.out, HB5.out⟩, by simp [intOf]; omega⟩
      · obtain rfl : k = 6 := by omega
        have d1 : decide (((6 : Nat) : Int) < 6) = false := rfl
        go_wp2_with fail
        go_ret
        exact ⟨_, rfl, hR, hB⟩)
end Go.Proofs.Ytdhfnfoimbijmaa.Mk
