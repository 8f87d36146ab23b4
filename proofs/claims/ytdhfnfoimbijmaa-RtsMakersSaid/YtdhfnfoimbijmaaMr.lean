/- What the reference's Makers makes: its row. -/
import Derived.Test.YtdhfnfoimbijmaaMk
import Derived.Test.YtdhfnfoimbijmaaKn5
namespace Go.Proofs.Ytdhfnfoimbijmaa.Mk
open Go.RowKit Go.Proofs.YtdhfnfoimbijmaaW.PrintWords Go.Proofs.YtdhfnfoimbijmaaW.PrintLast Go.Proofs.YtdhfnfoimbijmaaW.PrintMore Pa
set_option linter.unusedSimpArgs false
set_option linter.unusedVariables false
theorem con_any (nm : ByteArray) (n : Int) (A : Option Addr) (k c : Nat) (w : World) : Calls Try.prog 40 #[.string nm, .int .i64 n, .slice A k c] w fun e w' => e = .returned (.agg #[.int .i64 2, .int .i64 n, .string nm, .slice A k c]) ∧ Below w.heap.size w w' := by
  go_enter Try.func40, Try.ntmps40
  go_wp2_with fail
  refine bodyPost_ret (Mem.results_cell rfl _ _ ⟨w.heap.size, 0, none⟩ _ rfl ?_) rfl ⟨rfl, (Below.refl _ w).alloc (Nat.le_refl _) _⟩
  have hbt : (w.alloc (.cells #[.int .i64 2, .int .i64 n, .string nm, .slice A k c] 26)).heap[w.heap.size]? = some (.cells #[.int .i64 2, .int .i64 n, .string nm, .slice A k c] 26 (0, 0)) := blk_new _ _
  have h0 := (blk_cell hbt 0).trans rfl
  have h1 := (blk_cell hbt 1).trans rfl
  have h2 := (blk_cell hbt 2).trans rfl
  have h3 := (blk_cell hbt 3).trans rfl
  have hu := Try.underlying26
  simp [loadVar, go_sem, h0, h1, h2, h3]
theorem lit_Rk {α : Type} (d : Kd α) {W : World} {base e : Nat} {xs : List α} {inner : List Value} {ok : Nat → Prop} (hrep : Reps (d.M W base ok) d.sz xs inner) (hfr : ok W.heap.size) (hbase : base ≤ W.heap.size) (hm : xs.length ≤ 9223372036854775807) :
    d.R e (W.alloc (.cells inner.toArray e)) base ok (.slice (some ⟨W.heap.size, 0, none⟩) xs.length xs.length) xs := by
  refine ⟨fun k hk => ?_, inner, ?_, ?_⟩
  · have : W.heap.size = k := by simpa [Value.ownBlock] using hk
    exact this ▸ hfr
  · have h2 := World.ownsRow_lit (base := base) (e := e) (size := d.sz) W inner.toArray xs.length hbase (by simpa [maxLen] using hm) (by simpa using hrep.1)
    simpa using h2
  · refine hrep.imp_ (fun p c hp => d.M_mono (fun k hk => ⟨hk.1, fun he => ?_⟩) (Kd.M_below (d.M_bound hp) (below_alloc (Below.refl _ _) _)))
    have h3 : k = W.heap.size := by simpa [Value.ownBlock] using he
    have := hk.2.2.1
    omega
/-- Boxes of types, and rows of types, of the call's own. -/
structure Bx (w W : World) (l : List (Nat × Array Value)) (rs : List (Value × List S26)) : Prop where
  c : ∀ p ∈ l, W.heap[p.1]? = some (.cells p.2 26 (0, 0)) ∧ w.heap.size ≤ p.1
  b : Below w.heap.size w W
  r : ∀ p ∈ rs, k26.R 26 W w.heap.size (fun k => ∀ q ∈ l, k ≠ q.1) p.1 p.2
theorem Bx.start (w : World) : Bx w w [] [] := ⟨fun _ h => absurd h (by simp), Below.refl _ _, fun _ h => absurd h (by simp)⟩
theorem Bx.below {w W W' : World} {l : List (Nat × Array Value)} {rs : List (Value × List S26)} (h : Bx w W l rs) (hb : Below W.heap.size W W') : Bx w W' l rs :=
  ⟨fun p hp => ⟨blk_below (h.c p hp).1 hb, (h.c p hp).2⟩, below_step h.b hb, fun p hp => Kd.R_below (h.r p hp) hb⟩
theorem Bx.box {w W W' : World} {l : List (Nat × Array Value)} {rs : List (Value × List S26)} {g : Nat} {cs : Array Value} (h : Bx w W l rs) (hg : g = W.heap.size) (hx : W'.heap[g]? = some (.cells cs 26 (0, 0))) (hb : Below W.heap.size W W') : Bx w W' ((g, cs) :: l) rs :=
  ⟨fun p hp => by
    rcases List.mem_cons.1 hp with rfl | hp
    · exact ⟨hx, by rw [show (g, cs).1 = g from rfl, hg]; exact h.b.size⟩
    · exact ⟨blk_below (h.c p hp).1 hb, (h.c p hp).2⟩, below_step h.b hb, fun p hp => Kd.R_below (Kd.R_mono (Kd.R_elderB (h.r p hp) g (Nat.le_of_eq hg.symm)) (fun k hk q hq => by
    rcases List.mem_cons.1 hq with rfl | hq
    · exact hk.2
    · exact hk.1 q hq)) hb⟩
theorem Bx.put {w W : World} {l : List (Nat × Array Value)} {rs : List (Value × List S26)} {g : Nat} {cs : Array Value} (h : Bx w W ((g, cs) :: l) rs) (hd : ∀ p ∈ l, p.1 ≠ g) (i : Nat) (u : Value) (cs' : Array Value) (e : cs.setIfInBounds i u = cs') : Bx w (W.setCell ⟨g, i, none⟩ u) ((g, cs') :: l) rs :=
  ⟨fun p hp => by
    rcases List.mem_cons.1 hp with rfl | hp
    · exact ⟨blk_put (h.c _ List.mem_cons_self).1 i u e, (h.c (g, cs) List.mem_cons_self).2⟩
    · exact ⟨blk_far (h.c p (List.mem_cons_of_mem _ hp)).1 (hd p hp) _, (h.c p (List.mem_cons_of_mem _ hp)).2⟩, below_set h.b (h.c (g, cs) List.mem_cons_self).2, fun p hp => Kd.R_mono (Kd.R_far (p := ⟨g, i, none⟩) (h.r p hp) (fun k hk => hk (g, cs) List.mem_cons_self) _) (fun k hk q hq => by
    rcases List.mem_cons.1 hq with rfl | hq
    · exact hk (g, cs) List.mem_cons_self
    · exact hk q (List.mem_cons_of_mem _ hq))⟩
theorem Bx.row {w W : World} {l : List (Nat × Array Value)} {rs : List (Value × List S26)} (h : Bx w W l rs) {xs : List S26} {inner : List Value} (hrep : Reps (k26.M W w.heap.size (fun k => ∀ q ∈ l, k ≠ q.1)) 4 xs inner) (hm : xs.length ≤ 9223372036854775807) :
    Bx w (W.alloc (.cells inner.toArray 26)) l ((.slice (some ⟨W.heap.size, 0, none⟩) xs.length xs.length, xs) :: rs) :=
  ⟨fun p hp => ⟨blk_alloc (h.c p hp).1 _, (h.c p hp).2⟩, below_alloc h.b _, fun p hp => by
    rcases List.mem_cons.1 hp with rfl | hp
    · exact lit_Rk k26 hrep (fun q hq => Nat.ne_of_gt (blk_lt (h.c q hq).1)) h.b.size hm
    · exact Kd.R_alloc (h.r p hp) _⟩
theorem Bx.puts {w W : World} {l : List (Nat × Array Value)} {rs : List (Value × List S26)} {g : Nat} {a b c d : Value} (h : Bx w W ((g, #[a, b, c, d]) :: l) rs) (hd : ∀ p ∈ l, p.1 ≠ g) (a' b' c' d' : Value) :
    Bx w ((((W.setCell ⟨g, 0, none⟩ a').setCell ⟨g, 1, none⟩ b').setCell ⟨g, 2, none⟩ c').setCell ⟨g, 3, none⟩ d') ((g, #[a', b', c', d']) :: l) rs :=
  (((h.put hd 0 a' _ rfl).put hd 1 b' _ rfl).put hd 2 c' _ rfl).put hd 3 d' _ rfl
theorem Bx.ne {w W : World} {l : List (Nat × Array Value)} {rs : List (Value × List S26)} (h : Bx w W l rs) {g : Nat} (hg : g = W.heap.size) : ∀ p ∈ l, p.1 ≠ g := fun p hp => by
  have := blk_lt (h.c p hp).1
  omega
theorem str_at {W : World} {b g : Nat} {ok : Nat → Prop} (h : Kd.string.R 9 W b ok (.slice (some ⟨g, 0, none⟩) 6 6) nms) (k : Nat) (hk : k < 6) (s : ByteArray) (hs : nms.getD k ByteArray.empty = s) : W.cell? ⟨g, k, none⟩ = some (.string s) := by
  have hh := (Kd.R_celln ByteArray.empty h (k : Int) (by omega) (by omega)).1
  have hrn : rdOf ByteArray.empty nms (k : Int) = nms.getD k ByteArray.empty := by simp [rdOf]
  rw [hrn, Int.toNat_natCast, hs] at hh
  exact hh
theorem all4 {w W : World} {A A2 T : Option Addr} {n c n2 c2 tn tc : Nat} (hb : Below w.heap.size w W) (h1 : k26.R 26 W w.heap.size (fun _ => True) (.slice A n c) [one]) (h2 : k26.R 26 W w.heap.size (fun _ => True) (.slice A2 n2 c2) [one]) (h3 : k26.R 26 W w.heap.size (fun _ => True) (.slice T tn tc) [one, lst]) :
    k28.R 28 (W.alloc (.cells (([.string ⟨#[102, 97, 108, 115, 101]⟩, .int .i64 0, .bool false, .int .i64 0, .int .i64 0, .int .i64 0, .string ⟨#[]⟩, .slice none 0 0, .int .i64 2, .int .i64 8, .string ⟨#[98, 111, 111, 108]⟩, .slice none 0 0] ++ ([.string ⟨#[116, 114, 117, 101]⟩, .int .i64 1, .bool false, .int .i64 0, .int .i64 0, .int .i64 0, .string ⟨#[]⟩, .slice none 0 0, .int .i64 2, .int .i64 8, .string ⟨#[98, 111, 111, 108]⟩, .slice none 0 0] ++ ([.string ⟨#[110, 105, 108]⟩, .int .i64 0, .bool false, .int .i64 1, .int .i64 0, .int .i64 0, .string ⟨#[]⟩, .slice none 0 0, .int .i64 2, .int .i64 9, .string ⟨#[108, 105, 115, 116]⟩, .slice A n c] ++ [.string ⟨#[58, 58]⟩, .int .i64 1, .bool true, .int .i64 1, .int .i64 2, .int .i64 6, .string ⟨#[42]⟩, .slice T tn tc, .int .i64 2, .int .i64 9, .string ⟨#[108, 105, 115, 116]⟩, .slice A2 n2 c2]))) : List Value).toArray 28)) w.heap.size (fun _ => True) (.slice (some ⟨W.heap.size, 0, none⟩) 4 4) (mks 0) ∧ Below w.heap.size w (W.alloc (.cells (([.string ⟨#[102, 97, 108, 115, 101]⟩, .int .i64 0, .bool false, .int .i64 0, .int .i64 0, .int .i64 0, .string ⟨#[]⟩, .slice none 0 0, .int .i64 2, .int .i64 8, .string ⟨#[98, 111, 111, 108]⟩, .slice none 0 0] ++ ([.string ⟨#[116, 114, 117, 101]⟩, .int .i64 1, .bool false, .int .i64 0, .int .i64 0, .int .i64 0, .string ⟨#[]⟩, .slice none 0 0, .int .i64 2, .int .i64 8, .string ⟨#[98, 111, 111, 108]⟩, .slice none 0 0] ++ ([.string ⟨#[110, 105, 108]⟩, .int .i64 0, .bool false, .int .i64 1, .int .i64 0, .int .i64 0, .string ⟨#[]⟩, .slice none 0 0, .int .i64 2, .int .i64 9, .string ⟨#[108, 105, 115, 116]⟩, .slice A n c] ++ [.string ⟨#[58, 58]⟩, .int .i64 1, .bool true, .int .i64 1, .int .i64 2, .int .i64 6, .string ⟨#[42]⟩, .slice T tn tc, .int .i64 2, .int .i64 9, .string ⟨#[108, 105, 115, 116]⟩, .slice A2 n2 c2]))) : List Value).toArray 28)) := by
  refine ⟨lit_R k28 (xs := [m0, m1, m2, m3]) (okp := fun _ => True) ?_ hb.size (by simp), below_alloc hb _⟩
  refine Reps.front (k28_mkM W _ _ m0 (Kd.R_nil _ _ _ _ _) (Kd.R_nil _ _ _ _ _)) rfl ?_ rfl
  refine Reps.front (k28_mkM W _ _ m1 (Kd.R_nil _ _ _ _ _) (Kd.R_nil _ _ _ _ _)) rfl ?_ rfl
  refine Reps.front (k28_mkM W _ _ m2 (Kd.R_nil _ _ _ _ _) h1) rfl ?_ rfl
  exact Reps.front (cs := []) (k28_mkM W _ _ m3 h3 h2) rfl (Reps.none _ _) rfl
set_option maxRecDepth 100000 in
set_option maxHeartbeats 4000000 in
theorem makers_ref (w : World) :
    Calls Try.prog 15 #[] w fun e w' => ∃ v, e = .returned v ∧ k28.R 28 w' w.heap.size (fun _ => True) v (mks 6) ∧ Below w.heap.size w w' := by
  have hu26 := Try.underlying26
  have hu28 := Try.underlying28
  have bx := Bx.start w
  go_enter Try.func15, Try.ntmps15
  go_wp2_with (first
    | ((with_reducible refine gate_dst (N := 1) rfl ?_); refine box_event ?hg (N := 1) ?hd (cs := #[.int .i64 0, .int .i64 0, .string (⟨#[]⟩ : ByteArray), .slice none 0 0]) (t := 26) ?hr ?_; (case hd => rfl); (case hg => rfl); (case hr => first | (go_simp; done) | (go_simp; rfl)); intro g1 hg w1 hbox hb; have d1 := bx.ne hg; replace bx := (bx.box hg hbox hb); obtain ⟨p0, p1, p2, p3, f0, f1, f2, f3⟩ := four hbox; clear hb hbox hg))
  replace bx := bx.puts d1 (.int .i64 1) (.int .i64 0) (.string ⟨#[]⟩) (.slice none 0 0)
  clear p0 p1 p2 p3 f0 f1 f2 f3 d1
  (with_reducible refine Calls.mono (con_any _ _ _ _ _ _) ?_)
  rintro e w2 ⟨rfl, hb⟩
  replace bx := bx.below hb
  clear hb
  have bx := bx.box (g := w2.heap.size) (cs := #[.int .i64 2, .int .i64 8, .string ⟨#[98, 111, 111, 108]⟩, .slice none 0 0]) rfl (blk_new w2 _) (below_alloc (Below.refl _ w2) _)
  obtain ⟨c0, c1, c2, c3, -⟩ := four (bx.c _ (List.mem_cons_of_mem _ List.mem_cons_self)).1
  go_wp2_with fail
  have bx := bx.row (xs := [one]) (inner := [.int .i64 1, .int .i64 0, .string ⟨#[]⟩, .slice none 0 0]) (Reps.c4 (one_M _ _ _) (Reps.none _ _)) (by simp)
  (with_reducible refine Calls.mono (con_any _ _ _ _ _ _) ?_)
  rintro e w4 ⟨rfl, hb⟩
  have bx := bx.below hb
  clear hb c0 c1 c2 c3
  simp only [World.size_alloc] at bx
  have bx := bx.box (g := w4.heap.size) (cs := #[.int .i64 2, .int .i64 9, .string ⟨#[108, 105, 115, 116]⟩, .slice (some ⟨w2.heap.size + 1, 0, none⟩) 1 1]) rfl (blk_new w4 _) (below_alloc (Below.refl _ w4) _)
  have hX : k26.R 26 _ _ _ (.slice (some ⟨w2.heap.size + 1, 0, none⟩) 1 1) [one] := bx.r _ List.mem_cons_self
  obtain ⟨c0, c1, c2, c3, -⟩ := four (bx.c _ (List.mem_cons_of_mem _ (List.mem_cons_of_mem _ List.mem_cons_self))).1
  have HX := Aside0.mk hX
  have BX := Aside0.mk bx
  clear hX bx
  go_wp2_with fail
  have bx := BX.out.row (xs := [one, lst]) (inner := [.int .i64 1, .int .i64 0, .string ⟨#[]⟩, .slice none 0 0, .int .i64 2, .int .i64 9, .string ⟨#[108, 105, 115, 116]⟩, .slice (some ⟨w2.heap.size + 1, 0, none⟩) 1 1]) (Reps.c4 (one_M _ _ _) (Reps.c4 (lst_M _ _ _ HX.out) (Reps.none _ _))) (by simp)
  (with_reducible refine Calls.mono (con_any _ _ _ _ _ _) ?_)
  rintro e w6 ⟨rfl, hb⟩
  replace bx := bx.below hb
  clear hb c0 c1 c2 c3 HX BX
  simp only [World.size_alloc] at bx
  replace bx := bx.box (g := w6.heap.size) (cs := #[.int .i64 2, .int .i64 6, .string ⟨#[42]⟩, .slice (some ⟨w4.heap.size + 1, 0, none⟩) 2 2]) rfl (blk_new w6 _) (below_alloc (Below.refl _ w6) _)
  have h1 : k26.R 26 _ _ (fun _ => True) (.slice (some ⟨w2.heap.size + 1, 0, none⟩) 1 1) [one] := Kd.R_mono (bx.r _ (List.mem_cons_of_mem _ List.mem_cons_self)) (fun _ _ => trivial)
  have h3 : k26.R 26 _ _ (fun _ => True) (.slice (some ⟨w4.heap.size + 1, 0, none⟩) 2 2) [one, lst] := Kd.R_mono (bx.r _ List.mem_cons_self) (fun _ _ => trivial)
  have hall := all4 bx.b h1 h1 h3
  simp only [List.cons_append, List.nil_append, World.size_alloc] at hall
  have HL := Aside0.mk hall
  obtain ⟨c0, c1, c2, c3, -⟩ := four (bx.c _ (List.mem_cons_of_mem _ List.mem_cons_self)).1
  obtain ⟨l0, l1, l2, l3, -⟩ := four (bx.c _ (List.mem_cons_of_mem _ (List.mem_cons_of_mem _ List.mem_cons_self))).1
  clear hall h1 h3 bx
  go_wp2_with fail
  obtain ⟨hR, hB⟩ := HL.out
  have hN := lit_R Kd.string (base := w.heap.size) (e := 9) (xs := nms) (inner := [.string ⟨#[77, 97, 116, 99, 104]⟩, .string ⟨#[66, 105, 110, 100]⟩, .string ⟨#[68, 105, 118]⟩, .string ⟨#[67, 104, 114]⟩, .string ⟨#[83, 117, 98, 115, 99, 114, 105, 112, 116]⟩, .string ⟨#[69, 113, 117, 97, 108]⟩]) (okp := fun _ => True) (Kd.reps_scalar nms) hB.size (by decide)
  have hR := Kd.R_alloc hR (.cells #[.string ⟨#[77, 97, 116, 99, 104]⟩, .string ⟨#[66, 105, 110, 100]⟩, .string ⟨#[68, 105, 118]⟩, .string ⟨#[67, 104, 114]⟩, .string ⟨#[83, 117, 98, 115, 99, 114, 105, 112, 116]⟩, .string ⟨#[69, 113, 117, 97, 108]⟩] 9)
  have hB := below_alloc hB (.cells #[.string ⟨#[77, 97, 116, 99, 104]⟩, .string ⟨#[66, 105, 110, 100]⟩, .string ⟨#[68, 105, 118]⟩, .string ⟨#[67, 104, 114]⟩, .string ⟨#[83, 117, 98, 115, 99, 114, 105, 112, 116]⟩, .string ⟨#[69, 113, 117, 97, 108]⟩] 9)
  simp only [World.size_alloc] at hN
  clear c0 c1 c2 c3 l0 l1 l2 l3 HL
  go_loopw [5, 7] (fun v i wr => ∃ k : Nat, k ≤ 6 ∧ i = .int .i64 (k : Int) ∧ k28.R 28 wr w.heap.size (fun _ => True) v (mks k) ∧ Kd.string.R 9 wr w.heap.size (fun _ => True) (.slice (some ⟨w6.heap.size + 1 + 1, 0, none⟩) 6 6) nms ∧ Below w.heap.size w wr) (fun _ i _ => 6 - (intOf i).toNat)
  case atStart => exact ⟨0, by omega, rfl, hR, hN, hB⟩
  case round =>
    clear hR hN hB
    obtain ⟨k, hk, rfl, hR, hN, hB⟩ := hrel
    obtain ⟨Av, cv, rfl⟩ := Kd.R_slice hR
    have hml := mks_len k
    by_cases h6 : k < 6
    · have d1 : decide ((k : Int) < 6) = true := decide_eq_true (by omega)
      have d0 : decide (0 ≤ (k : Int)) = true := decide_eq_true (by omega)
      obtain ⟨s, hs⟩ : ∃ s, nms.getD k ByteArray.empty = s := ⟨_, rfl⟩
      have hcn := str_at hN k h6 s hs
      have hmx : mks (k + 1) = mks k ++ [(⟨s, k, false, 0, z26, exn⟩ : S28)] := by rw [mks_succ]; unfold mx; rw [hs]
      have HS := Aside0.mk hs
      have HX := Aside0.mk hmx
      clear hs hmx
      have HR := Aside0.mk hR
      have HB := Aside0.mk hB
      have HN := Aside0.mk hN
      have HM := Aside0.mk hml
      clear hR hB hN hml
      have p0 : (0 : Int) ≤ (k : Int) := by omega
      have p1 : (k : Int) < 6 := by omega
      have p2 : (k : Int) ≤ 6 := by omega
      go_wp2_with fail
      go_region_held3 (fun W' => W'.cell? ⟨w6.heap.size + 1 + 1, k, none⟩ = some (.string s)) (first | exact hcn | exact str_at (Kd.R_alloc HN.out _) k h6 s HS.out)
        (first
          | (go_at_call 40; refine Calls.mono (con_any _ _ _ _ _ _) ?_; rintro e w5 ⟨rfl, hb⟩; replace HR := Aside0.mk (Kd.R_below (Kd.R_drew HR.out) hb); replace HN := Aside0.mk (Kd.R_below (Kd.R_drew HN.out) hb); replace HB := Aside0.mk (below_step (below_drew HB.out) hb); clear hcn hb; have hcn := str_at HN.out k h6 s HS.out)
          | (refine Kd.R_append_step k28 (w0 := w) w.heap.size (by rfl) (.tmp 34) (.tmp 42) 22 28 (.agg #[.string (⟨#[]⟩ : ByteArray), .int .i64 0, .bool false, .int .i64 0, .int .i64 0, .int .i64 0, .string (⟨#[]⟩ : ByteArray), .slice none 0 0, .int .i64 0, .int .i64 0, .string (⟨#[]⟩ : ByteArray), .slice none 0 0]) 152 rfl Try.underlying22 info28 rfl (by decide) (by omega) (.slice Av (mks k).length cv) (mks k) (⟨s, k, false, 0, z26, exn⟩ : S28) [.string s, .int .i64 (k : Int), .bool false, .int .i64 0, .int .i64 0, .int .i64 0, .string (⟨#[]⟩ : ByteArray), .slice none 0 0, .int .i64 2, .int .i64 4, .string ⟨#[101, 120, 110]⟩, .slice none 0 0] (fun _ => True) (fun _ => False) rfl rfl (k28_mkM _ _ _ (⟨s, k, false, 0, z26, exn⟩ : S28) (Kd.R_nil _ _ _ _ _) (Kd.R_nil _ _ _ _ _)) (fun _ hk => hk.elim) (fun _ _ => trivial) HR.out HB.out HB.out.size (by rw [HM.out]; omega) ?_; intro v5 w5 ho5 hbel5 hg5 hat5; replace HN := Aside0.mk (Kd.R_over HN.out HR.out (by decide) hg5); replace HR := Aside0.mk ho5; replace HB := Aside0.mk hbel5; clear ho5 hbel5 hg5 hat5 hcn; have hcn := str_at HN.out k h6 s HS.out))
      go_wp2_with fail
      exact ⟨⟨k + 1, by omega, by simp, by rw [HX.out]; exact HR.out, HN.out, HB.out⟩, by simp [intOf]; omega⟩
    · obtain rfl : k = 6 := by omega
      have d1 : decide (((6 : Nat) : Int) < 6) = false := rfl
      go_wp2_with fail
      go_ret
      exact ⟨_, rfl, hR, hB⟩
end Go.Proofs.Ytdhfnfoimbijmaa.Mk
