/- The memory's further calls: flip, move, copy; a memory kept behind draws. -/
import Derived.BigRegion
import Derived.Deep.RegionHeld3
import Derived.Maps.Ext
import Derived.Maps.OwnOps
import Derived.Maps.RangeWalk
import Derived.Test.YtjccaojlldkmpaaMem10
namespace Go.Proofs.Ytjccaojlldkmpaa.Mem
open Go.RowKit Go.Proofs.YtjccaojlldkmpaaW.PrintWords Go.Proofs.YtjccaojlldkmpaaW.PrintLast Go.Proofs.YtjccaojlldkmpaaW.PrintMore
open Hf (rightB hdr headOf partsOf w64_of)
set_option maxRecDepth 100000
set_option linter.unusedSimpArgs false
set_option linter.unusedVariables false
variable {S : Nat → Prop} {w w' w0 : World} {g mb n : Nat} {st : St} {vw vh ow oh : Value}
theorem own_lt {v : Value} {xs : List Int} (h : Ws w v xs) (k : Nat) (hk : v.ownBlock = some k) : k < w.heap.size := Kd.R_lt h k hk
theorem IsMem.bound (M : IsMem S w g st) : IsMem (fun k => S k ∧ k < w.heap.size) w g st := by
  obtain ⟨vw, vh, ow, oh, mb, n, L⟩ := M
  exact ⟨vw, vh, ow, oh, mb, n, L.H, L.sz, L.hf, L.fit, L.ofit, L.ows, L.ohs, L.ook, L.map, L.mn, L.apW, L.apH, ⟨L.s1, blk_lt L.H.blk⟩, ⟨L.s2, L.map.lt⟩, fun k hk => ⟨L.s3 k hk, Kd.R_lt L.H.ws k hk⟩, fun k hk => ⟨L.s4 k hk, Kd.R_lt L.H.hs k hk⟩,
    fun k hk => ⟨L.s5 k hk, Kd.R_lt L.ows k hk⟩, fun k hk => ⟨L.s6 k hk, Kd.R_lt L.ohs k hk⟩⟩
theorem pos_mono (os : List O) (i : Nat) (h : i ≤ os.length) : pos os i ≤ (flat os).length := by
  by_cases e : i = os.length
  · subst e; rw [pos_all]; exact Nat.le_refl _
  · have := pos_lt os i os.length (by omega) (Nat.le_refl _)
    rw [pos_all] at this
    omega
theorem IsMem.drawn (M : IsMem S w g st) (hd : Drawn0 w w') : IsMem S w' g st := M.keep (T := fun _ => False) (Fr.of_drawn hd) (fun _ _ h => h)
theorem Hs_drawn {v : Value} {xs : List Int} (h : Hs w v xs) (hd : Drawn0 w w') : Hs w' v xs := by
  obtain ⟨m, rfl⟩ := hd
  exact Kd.R_drewN h m
theorem drawn_trans {x y z : World} (h : Drawn0 x y) (k : Drawn0 y z) : Drawn0 x z := by
  obtain ⟨m, rfl⟩ := h
  obtain ⟨m2, rfl⟩ := k
  exact ⟨m + m2, by simp⟩
attribute [local go_sem] run_makeMap
theorem Fr.setg (x : World) (g i : Nat) (v : Value) : Fr (fun k => k = g) x (x.setCell ⟨g, i, none⟩ v) := Fr.of_set x ⟨g, i, none⟩ v rfl
/-- Behind 'Flip': the half in use is empty, the old one is what was in use, the map is new. -/
def FlipPost (w : World) (g : Nat) (size half f : Int) (vw vh : Value) (e : Ending) (w' : World) : Prop :=
  e = .returned (.int .i64 0) ∧ ∃ mb, w.heap.size ≤ mb ∧ w'.heap[g]? = some (.cells (cellsOf size (1 - half) (1 + (1 - half) * size) (.slice none 0 0) (.slice none 0 0) f vw vh (.map (some mb))) 96 (0, 0)) ∧ w'.heap[mb]? = some (.map #[] 0) ∧ Fr (fun k => k = g) w w'
set_option maxHeartbeats 8000000 in
set_option maxRecDepth 100000 in
theorem flip_raw (w : World) (g : Nat) (size half f f2 : Int) (mv : Value) (aw ah bw bh : Option Addr) (nw cw nh ch nw2 cw2 nh2 ch2 : Nat) (hs : 64 ≤ size ∧ size ≤ 65536) (hh : half = 0 ∨ half = 1)
    (hb : w.heap[g]? = some (.cells (cellsOf size half f (.slice aw nw cw) (.slice ah nh ch) f2 (.slice bw nw2 cw2) (.slice bh nh2 ch2) mv) 96 (0, 0))) :
    Calls Try.prog 50 #[.pointer (some ⟨g, 0, none⟩)] w fun e w' => FlipPost w g size half f (.slice aw nw cw) (.slice ah nh ch) e w' := by
  have c0 : w.cell? ⟨g, 0, none⟩ = some (.int .i64 size) := (blk_cell hb 0).trans rfl
  have c1 : w.cell? ⟨g, 1, none⟩ = some (.int .i64 half) := (blk_cell hb 1).trans rfl
  have c2 : w.cell? ⟨g, 2, none⟩ = some (.int .i64 f) := (blk_cell hb 2).trans rfl
  have c3 : w.cell? ⟨g, 3, none⟩ = some (.slice aw nw cw) := (blk_cell hb 3).trans rfl
  have c4 : w.cell? ⟨g, 4, none⟩ = some (.slice ah nh ch) := (blk_cell hb 4).trans rfl
  have c5 : w.cell? ⟨g, 5, none⟩ = some (.int .i64 f2) := (blk_cell hb 5).trans rfl
  have c6 : w.cell? ⟨g, 6, none⟩ = some (.slice bw nw2 cw2) := (blk_cell hb 6).trans rfl
  have c7 : w.cell? ⟨g, 7, none⟩ = some (.slice bh nh2 ch2) := (blk_cell hb 7).trans rfl
  have c8 : w.cell? ⟨g, 8, none⟩ = some mv := (blk_cell hb 8).trans rfl
  have z1 := blk_frozen hb 1
  have z2 := blk_frozen hb 2
  have z3 := blk_frozen hb 3
  have z4 := blk_frozen hb 4
  have z5 := blk_frozen hb 5
  have z6 := blk_frozen hb 6
  have z7 := blk_frozen hb 7
  have z8 := blk_frozen hb 8
  obtain ⟨F, hF⟩ : ∃ F : Int, 1 + (1 - half) * size = F := ⟨_, rfl⟩
  have hlo : 0 ≤ (1 - half) * size ∧ (1 - half) * size ≤ 65536 := by rcases hh with rfl | rfl <;> omega
  have h01 : 0 ≤ 1 - half ∧ 1 - half ≤ 1 := by omega
  obtain ⟨H1, hH1⟩ : ∃ H1 : Int, 1 - half = H1 := ⟨_, rfl⟩
  rw [hH1] at hF hlo h01
  obtain ⟨PR, hPR⟩ : ∃ PR : Int, H1 * size = PR := ⟨_, rfl⟩
  rw [hPR] at hF hlo
  go_enter Try.func50, Try.ntmps50
  go_wp2_with fail
  have hb1 : (w.setCell ⟨g, 1, none⟩ (.int .i64 H1)).heap[g]? = some (.cells (cellsOf size H1 f (.slice aw nw cw) (.slice ah nh ch) f2 (.slice bw nw2 cw2) (.slice bh nh2 ch2) mv) 96 (0, 0)) := blk_put hb 1 _ rfl
  have fr1 : Fr (fun k => k = g) w (w.setCell ⟨g, 1, none⟩ (.int .i64 H1)) := Fr.of_set w ⟨g, 1, none⟩ _ rfl
  clear c0 c1 c2 c3 c4 c5 c6 c7 c8 z1 z2 z3 z4 z5 z6 z7 z8
  revert hb1 fr1
  generalize w.setCell ⟨g, 1, none⟩ (.int .i64 H1) = w1
  intro hb1 fr1
  have c0 : w1.cell? ⟨g, 0, none⟩ = some (.int .i64 size) := (blk_cell hb1 0).trans rfl
  have c1 : w1.cell? ⟨g, 1, none⟩ = some (.int .i64 H1) := (blk_cell hb1 1).trans rfl
  have c2 : w1.cell? ⟨g, 2, none⟩ = some (.int .i64 f) := (blk_cell hb1 2).trans rfl
  have c3 : w1.cell? ⟨g, 3, none⟩ = some (.slice aw nw cw) := (blk_cell hb1 3).trans rfl
  have c4 : w1.cell? ⟨g, 4, none⟩ = some (.slice ah nh ch) := (blk_cell hb1 4).trans rfl
  have c5 : w1.cell? ⟨g, 5, none⟩ = some (.int .i64 f2) := (blk_cell hb1 5).trans rfl
  have c6 : w1.cell? ⟨g, 6, none⟩ = some (.slice bw nw2 cw2) := (blk_cell hb1 6).trans rfl
  have c7 : w1.cell? ⟨g, 7, none⟩ = some (.slice bh nh2 ch2) := (blk_cell hb1 7).trans rfl
  have c8 : w1.cell? ⟨g, 8, none⟩ = some mv := (blk_cell hb1 8).trans rfl
  have z2 := blk_frozen hb1 2
  have z3 := blk_frozen hb1 3
  have z4 := blk_frozen hb1 4
  have z5 := blk_frozen hb1 5
  have z6 := blk_frozen hb1 6
  have z7 := blk_frozen hb1 7
  have z8 := blk_frozen hb1 8
  go_region
  have hb2 := blk_drew (blk_put (blk_put (blk_put (blk_put (blk_put (blk_put hb1 2 (.int .i64 F) rfl) 3 (.slice none 0 0) rfl) 4 (.slice none 0 0) rfl) 5 (.int .i64 f) rfl) 6 (.slice aw nw cw) rfl) 7 (.slice ah nh ch) rfl)
  have fr2 := fr1.trans ((((((Fr.setg w1 g 2 (.int .i64 F)).trans (Fr.setg _ g 3 (.slice none 0 0))).trans (Fr.setg _ g 4 (.slice none 0 0))).trans (Fr.setg _ g 5 (.int .i64 f))).trans (Fr.setg _ g 6 (.slice aw nw cw))).trans (Fr.setg _ g 7 (.slice ah nh ch)))
  have fr3 := fr2.trans (Fr.of_below (below_drew (Below.refl _ _)))
  revert hb2 fr3
  clear c0 c1 c2 c3 c4 c5 c6 c7 c8 z2 z3 z4 z5 z6 z7 z8 fr2
  generalize (((((((w1.setCell { block := g, off := 2 } (Value.int IntKind.i64 F)).setCell { block := g, off := 3 } (Value.slice none 0 0)).setCell { block := g, off := 4 } (Value.slice none 0 0)).setCell { block := g, off := 5 } (Value.int IntKind.i64 f)).setCell { block := g, off := 6 } (Value.slice aw nw cw)).setCell { block := g, off := 7 } (Value.slice ah nh ch)).drew) = w2
  intro hb2 fr3
  have hb3 := blk_alloc hb2 (.map #[] 0)
  have c8 : (w2.alloc (.map #[] 0)).cell? ⟨g, 8, none⟩ = some mv := (blk_cell hb3 8).trans rfl
  have z8 := blk_frozen hb3 8
  go_wp2_with fail
  go_ret
  subst hH1 hPR hF
  have hne : w2.heap.size ≠ g := fun e => by have := blk_lt hb2; omega
  refine ⟨rfl, w2.heap.size, fr3.low.size, blk_put hb3 8 (.map (some w2.heap.size)) rfl, ?_, (fr3.trans (Fr.of_below ((Below.refl _ w2).alloc (Nat.le_refl _) _))).trans (Fr.setg _ g 8 _)⟩
  exact (Below.heap_setCell _ ⟨g, 8, none⟩ _ _ hne).trans (blk_new w2 _)
/-- The state behind Flip. -/
def St.flip (st : St) : St := ⟨st.size, 1 - st.half, [], st.os, .map []⟩
theorem flip_f2 (st : St) : st.flip.f2 = st.f := by
  unfold St.flip St.f2 St.f
  simp only
  rw [show (1 : Int) - (1 - st.half) = st.half by omega]
theorem IsMem.flip (M : IsMem S w g st) : Calls Try.prog 50 #[.pointer (some ⟨g, 0, none⟩)] w fun e w' => e = .returned (.int .i64 0) ∧ IsMem (fun k => S k ∨ w.heap.size ≤ k) w' g st.flip ∧ Fr S w w' := by
  obtain ⟨vw, vh, ow, oh, mb, n, L⟩ := M
  have hgvw := L.g_vw
  have hgvh := L.g_vh
  have H := L.H
  have hows := L.ows
  have hohs := L.ohs
  have hsz := L.sz
  have hhf := L.hf
  obtain ⟨a1, c1, e1⟩ := Kd.R_slice L.H.ws
  obtain ⟨a2, c2, e2⟩ := Kd.R_slice L.H.hs
  obtain ⟨a3, c3, e3⟩ := Kd.R_slice L.ows
  obtain ⟨a4, c4, e4⟩ := Kd.R_slice L.ohs
  have hblk := H.blk
  rw [e1, e2, e3, e4] at hblk
  refine (flip_raw w g st.size st.half st.f st.f2 (.map (some mb)) a1 a2 a3 a4 _ c1 _ c2 _ c3 _ c4 hsz hhf hblk).mono ?_
  rintro e w' ⟨he, mb', hmb, hb', hmap, fr⟩
  rw [← e1, ← e2] at hb'
  have nil : ∀ k, (Value.slice none 0 0).ownBlock = some k → False := fun k hk => by simp [Value.ownBlock] at hk
  refine ⟨he, ⟨.slice none 0 0, .slice none 0 0, vw, vh, mb', 0, ?_⟩, fr.mono (fun k _ h => h ▸ L.s1)⟩
  exact
    { H := ⟨by rw [flip_f2]; exact hb', Kd.R_nil _ _ _ _ _, Kd.R_nil _ _ _ _ _, (fun o ho => by cases ho), (by
        unfold St.flip St.f
        simp only
        rcases hhf with h | h <;> rw [h] <;> omega), by simp [St.flip, flat]⟩
      sz := hsz
      hf := by
        unfold St.flip
        simp only
        omega
      fit := by
        unfold St.flip
        simp only [flat, List.flatMap_nil, List.length_nil]
        omega
      ofit := L.fit
      ows := keepW L.H.ws fr (fun k hk h => hgvw k hk h)
      ohs := by rw [flip_f2]; exact keepH L.H.hs fr (fun k hk h => hgvh k hk h)
      ook := L.H.ok
      map := ⟨#[], 0, hmap, ⟨by simp, MapKept.stamped_empty 0, by simp⟩, Nat.le_refl _, rfl⟩
      mn := Nat.zero_le _
      apW := fun k hk => (nil k hk).elim
      apH := fun k hk => (nil k hk).elim
      s1 := .inl L.s1
      s2 := .inr hmb
      s3 := fun k hk => (nil k hk).elim
      s4 := fun k hk => (nil k hk).elim
      s5 := fun k hk => .inl (L.s3 k hk)
      s6 := fun k hk => .inl (L.s4 k hk) }
theorem ofs (L : Lie S w g st vw vh ow oh mb n) : 0 ≤ st.f2 ∧ st.f2 ≤ 200000 := by
  have h := L.sz
  unfold St.f2
  rcases L.hf with e | e <;> rw [e] <;> omega
/-- A view of the old half, or that there is none. -/
theorem Lie.old_at (L : Lie S w g st vw vh ow oh mb n) (a : Int) (ha : -9223372036854775808 ≤ a ∧ a ≤ 9223372036854775807) :
    Calls Try.prog 67 #[.pointer (some ⟨g, 5, none⟩), .int .i64 a] w fun e w' => ((∃ (i gw c : Nat) (h : i < st.olds.length), a = st.f2 + (pos st.olds i : Int) ∧ ow = .slice (some ⟨gw, 0, none⟩) (flat st.olds).length c ∧ (flat st.olds).length ≤ c ∧ e = .returned (.slice (some ⟨gw, pos st.olds i, none⟩) (st.olds[i].fs.length + 1) (c - pos st.olds i))) ∨
      (NoHead st.f2 st.olds a ∧ e = .returned (.slice none 0 0))) ∧ Drawn0 w w' := by
  obtain ⟨aw, cw, e1⟩ := Kd.R_slice L.ows
  obtain ⟨ah, ch, e2⟩ := Kd.R_slice L.ohs
  have hb := L.H.blk
  have hws := L.ows
  have hhs := L.ohs
  have hsz := L.sz
  have hfit := L.ofit
  rw [e1, e2] at hb
  rw [e1] at hws
  rw [e2] at hhs
  refine (at_any w g 5 st.f2 st.olds 0 _ cw aw ah _ ch a L.ook (ofs L) (by omega) ha ((blk_cell hb 5).trans rfl) ((blk_cell hb 6).trans rfl) ((blk_cell hb 7).trans rfl) hws hhs).mono ?_
  rintro e w' ⟨h, hd⟩
  refine ⟨?_, hd⟩
  rcases h with ⟨i, gw, hi, h1, h2, h3⟩ | h
  · exact .inl ⟨i, gw, cw, hi, h1, by rw [e1, h2], (Kd.R_reads' hws).2.1, h3⟩
  · exact .inr h
theorem Lie.old_no (L : Lie S w g st vw vh ow oh mb n) (a : Int) (ha : -9223372036854775808 ≤ a ∧ a ≤ 9223372036854775807) (hn : NoHead st.f2 st.olds a) :
    Calls Try.prog 67 #[.pointer (some ⟨g, 5, none⟩), .int .i64 a] w fun e w' => e = .returned (.slice none 0 0) ∧ Drawn0 w w' := by
  refine (L.old_at a ha).mono ?_
  rintro e w' ⟨h, h2⟩
  refine ⟨?_, h2⟩
  rcases h with ⟨i', gw, c, hi', he, hv, hcap, h3⟩ | ⟨-, h⟩
  · exact absurd he (hn.not hi')
  · exact h
set_option maxHeartbeats 4000000 in
set_option maxRecDepth 100000 in
theorem IsMem.move_no (M : IsMem S w g st) (a : Int) (ha : -9223372036854775808 ≤ a ∧ a ≤ 9223372036854775807) (hn : NoHead st.f2 st.olds a) :
    Calls Try.prog 53 #[.pointer (some ⟨g, 0, none⟩), .int .i64 a] w fun e w' => e = .returned (.tuple #[.int .i64 0, .int .i64 20]) ∧ Drawn0 w w' := by
  obtain ⟨vw, vh, ow, oh, mb, n, L⟩ := M
  have hne := slice_none
  have hA := L.old_no a ha hn
  go_enter Try.func53, Try.ntmps53
  go_wp2_with (first
    | (go_at_call 67; (with_reducible refine hA.mono ?_); clear hA; rintro e w5 ⟨rfl, ⟨m5, rfl⟩⟩))
  go_ret2
  exact ⟨rfl, ⟨_, rfl⟩⟩
theorem wf_i64 {n : Int} (h : -9223372036854775808 ≤ n ∧ n ≤ 9223372036854775807) : (Lit.int .i64 n).wf = true := by
  simpa [Lit.wf, IntKind.min, IntKind.max, IntKind.signed, IntKind.bits] using h
theorem zero3 (W : World) : (zeroValue 3).run Try.prog W = .ok (.int .i64 0) W := by
  first
  | rfl
  | kernel_rfl
theorem put_half {size half f f2 : Int} {mv : Value} {os : List O} {e : Ending} (o : O) (ho : o.ok) (H : Half w g size half f f2 ow oh mv vw vh os) (hfl : (flat os).length + o.fs.length + 1 ≤ 65536)
    (h : PutPost w g size half f f2 ow oh mv vw vh (flat os) (heads f os) o.row e w') :
    e = .returned (.int .i64 (f + ((flat os).length : Int))) ∧ ∃ vw' vh', Half w' g size half f f2 ow oh mv vw' vh' (os ++ [o]) ∧ At w vw vw' ∧ At w vh vh' ∧ Fr (fun k => k = g ∨ vw.ownBlock = some k ∨ vh.ownBlock = some k) w w' := by
  obtain ⟨he, vw', vh', h1, h2, h3, h4, h5, h6⟩ := h
  have hflat : flat (os ++ [o]) = flat os ++ o.row := by rw [flat_append, flat_one]
  refine ⟨he, vw', vh', ⟨h1, by rw [hflat]; exact h2, by rw [heads_append]; exact h3, fun x hx => ?_, H.hf, ?_⟩, h4, h5, h6⟩
  · rw [List.mem_append, List.mem_singleton] at hx
    rcases hx with hx | rfl
    · exact H.ok x hx
    · exact ho
  · rw [hflat, List.length_append, row_length]; omega
theorem Lie.mapped (L : Lie S w g st vw vh ow oh mb n) {D' : DataW Unit} {n' : Nat} (hown : w'.ownsMap Try.prog 3 (plainElem Try.prog 3) mb n' D') (hg : w.grownBy w' (some mb)) (hn : n' ≤ st.os.length) : Lie S w' g { st with mvd := D' } vw vh ow oh mb n' := by
  have fr : Fr (fun k => k = mb) w w' := Fr.of_grown hg (fun k e => by cases e; rfl)
  have noW : ∀ {v : Value} {xs : List Int}, Ws w v xs → ∀ k, v.ownBlock = some k → ¬ k = mb := fun h k hk e => by
    obtain ⟨cs, h1⟩ := Kd.R_typed h k hk
    exact map_ne L.map h1 e.symm
  have noH : ∀ {v : Value} {xs : List Int}, Hs w v xs → ∀ k, v.ownBlock = some k → ¬ k = mb := fun h k hk e => by
    obtain ⟨cs, h1⟩ := Kd.R_typed h k hk
    exact map_ne L.map h1 e.symm
  exact
    { H := ⟨(fr.same g (blk_lt L.H.blk) (fun e => L.mb_g e.symm)).trans L.H.blk, keepW L.H.ws fr (noW L.H.ws), keepH L.H.hs fr (noH L.H.hs), L.H.ok, L.H.hf, L.H.hl⟩
      sz := L.sz
      hf := L.hf
      fit := L.fit
      ofit := L.ofit
      ows := keepW L.ows fr (noW L.ows)
      ohs := keepH L.ohs fr (noH L.ohs)
      ook := L.ook
      map := hown
      mn := hn
      apW := L.apW
      apH := L.apH
      s1 := L.s1
      s2 := L.s2
      s3 := L.s3
      s4 := L.s4
      s5 := L.s5
      s6 := L.s6 }
theorem Lie.old_yes (L : Lie S w g st vw vh ow oh mb n) (i : Nat) (hi : i < st.olds.length) :
    Calls Try.prog 67 #[.pointer (some ⟨g, 5, none⟩), .int .i64 (st.f2 + (pos st.olds i : Int))] w fun e w' => (∃ (gw c : Nat), ow = .slice (some ⟨gw, 0, none⟩) (flat st.olds).length c ∧ (flat st.olds).length ≤ c ∧ e = .returned (.slice (some ⟨gw, pos st.olds i, none⟩) (st.olds[i].fs.length + 1) (c - pos st.olds i))) ∧ Drawn0 w w' := by
  have hp := pos_head st.olds i hi
  have hf := ofs L
  have h1 := L.ofit
  have h2 := L.sz
  refine (L.old_at (st.f2 + (pos st.olds i : Int)) (by omega)).mono ?_
  rintro e w' ⟨h, h2⟩
  refine ⟨?_, h2⟩
  rcases h with ⟨i', gw, c, hi', he, hv, hcap, h3⟩ | ⟨hn, -⟩
  · obtain rfl : i = i' := pos_inj hi hi' (by omega)
    exact ⟨gw, c, hv, hcap, h3⟩
  · exact absurd rfl (hn.not hi)
/-- The words of an old object, read. -/
theorem Lie.old_row (L : Lie S w g st vw vh ow oh mb n) (i gw c : Nat) (hi : i < st.olds.length) (hv : ow = .slice (some ⟨gw, 0, none⟩) (flat st.olds).length c) (hc : (flat st.olds).length ≤ c) : (Kd.int .u64).C w (some ⟨gw, pos st.olds i, none⟩) (st.olds[i].fs.length + 1) st.olds[i].row := by
  have hp := pos_head st.olds i hi
  have hws := L.ows
  rw [hv] at hws
  have hC := Kd.C_mid (lo := pos st.olds i) (hi := pos st.olds i + (st.olds[i].fs.length + 1)) (c := c) (Kd.R_reads' hws).2.2 (by omega) (by omega) hc
  have hrow : ((flat st.olds).take (pos st.olds i + (st.olds[i].fs.length + 1))).drop (pos st.olds i) = st.olds[i].row := by
    rw [flat_at st.olds i hi]
    unfold pos
    rw [← List.append_assoc, List.take_left' (by rw [List.length_append, row_length]), List.drop_left' rfl]
  have hadd : (Option.map (fun x : Addr => x.add (pos st.olds i * (Kd.int .u64).sz)) (some ⟨gw, 0, none⟩)) = some ⟨gw, pos st.olds i, none⟩ := by
    show some (Addr.add ⟨gw, 0, none⟩ (pos st.olds i * 1)) = _
    by_cases h : pos st.olds i = 0 <;> simp [Addr.add, h]
  rw [hrow, if_neg (by omega), row_length, hadd] at hC
  exact hC
set_option maxHeartbeats 8000000 in
set_option maxRecDepth 100000 in
theorem IsAt.move {B : Nat} (M : IsAt B S w g st) (i : Nat) (hi : i < st.olds.length) (hno : Maps.has st.mvd (.int .i64 (st.f2 + (pos st.olds i : Int))) = false) (hroom : ((flat st.os).length : Int) + st.olds[i].fs.length + 1 ≤ st.size) :
    Calls Try.prog 53 #[.pointer (some ⟨g, 0, none⟩), .int .i64 (st.f2 + (pos st.olds i : Int))] w fun e w' => e = .returned (.tuple #[.int .i64 (st.f + ((flat st.os).length : Int)), .int .i64 0]) ∧
      IsAt B (fun k => S k ∨ w.heap.size ≤ k) w' g { st with os := st.os ++ [st.olds[i]], mvd := st.mvd.put (.int .i64 (st.f2 + (pos st.olds i : Int))) (.lit (.int .i64 (st.f + ((flat st.os).length : Int)))) } ∧ Fr S w w' := by
  obtain ⟨vw, vh, ow, oh, mb, n, L, hmb⟩ := M
  have hp := pos_head st.olds i hi
  have hf2 := ofs L
  have hfit := L.ofit
  have hsz := L.sz
  have hf := L.H.hf
  have hl := L.H.hl
  have hll := len_le st.os
  obtain ⟨A, hA⟩ : ∃ A : Int, st.f2 + (pos st.olds i : Int) = A := ⟨_, rfl⟩
  have hAr : -9223372036854775808 ≤ A ∧ A ≤ 9223372036854775807 := by omega
  have hY := L.old_yes i hi
  rw [hA] at hno hY ⊢
  obtain ⟨N, hN⟩ : ∃ N : Nat, st.olds[i].fs.length = N := ⟨_, rfl⟩
  have hOk := L.ook _ (List.getElem_mem hi)
  obtain ⟨av, cv, rfl⟩ := Kd.R_slice L.H.ws
  obtain ⟨P, hP⟩ : ∃ P : Nat, (flat st.os).length = P := ⟨_, rfl⟩
  obtain ⟨T, hT⟩ : ∃ T : Int, st.f + (P : Int) = T := ⟨_, rfl⟩
  have hcell : w.cell? ⟨g, 8, none⟩ = some (.map (some mb)) := (blk_cell L.H.blk 8).trans rfl
  have hfr : decide ((N : Int) + 1 > st.size - (P : Int)) = false := decide_eq_false (by omega)
  have hN64 : (N : Int) ≤ 65536 := by omega
  go_enter Try.func53, Try.ntmps53
  go_wp2_with (first
    | (go_at_call 67; (with_reducible refine hY.mono ?_); clear hY; rintro e w1 ⟨⟨gw, c, hv, hcap, rfl⟩, hd1⟩
       have hne := slice_there ⟨gw, pos st.olds i, none⟩ (st.olds[i].fs.length + 1) (c - pos st.olds i)
       have L1 := L.keep (T := fun _ => False) (Fr.of_drawn hd1) (fun _ _ h => h)
       have hrow := L1.old_row i gw c hi hv hcap
       rw [hN] at hne hrow ⊢
       have hcell1 : w1.cell? ⟨g, 8, none⟩ = some (.map (some mb)) := (blk_cell L1.H.blk 8).trans rfl
       have hFr : Calls Try.prog 32 #[.pointer (some ⟨g, 0, none⟩)] w1 fun e w' => e = .returned (.int .i64 (st.size - (P : Int))) ∧ Drawn0 w1 w' := by
         have := L1.H.free (by omega) 0
         rw [hP] at this
         exact this)
    | (at_lookup; refine wpList_lookup_own_ok_int _ rfl (.tmp 23) (.tmp 24) 94 rfl 3 3 .i64 (Maps.int_keyed Try.underlying3) Try.underlying94 Try.underlying3 (zero3 _) mb n st.mvd rfl L1.map (.int .i64 A) (.int .i64 A) rfl (Maps.keyOf_int_mk Try.underlying3 (wf_i64 hAr)) ?_; intro cc hat hwfc; rw [hno])
    | (go_at_call 32; (with_reducible refine hFr.mono ?_); clear hFr; rintro e w2 ⟨rfl, hd2⟩
       have L2 := L1.keep (T := fun _ => False) (Fr.of_drawn hd2) (fun _ _ h => h)
       have hrow2 := L2.old_row i gw c hi hv hcap
       rw [hN] at hrow2
       have hPut := put_any w2 g st.size st.half st.f st.f2 ow oh (.map (some mb)) vh av _ cv (some ⟨gw, pos st.olds i, none⟩) (N + 1) (c - pos st.olds i) (flat st.os) (heads st.f st.os) st.olds[i].row hf hl (by omega) (by rw [heads_length]; omega) L2.H.blk L2.H.ws L2.H.hs hrow2)
    | (go_at_call 72; (with_reducible refine hPut.mono ?_); clear hPut; rintro e w3 h3
       obtain ⟨he, vw', vh', H3, aw, ah, fr3⟩ := put_half st.olds[i] hOk L2.H (by omega) h3
       rw [hP, hT] at he
       subst he
       have L3 := L2.now H3 aw ah fr3 (by rw [flat_append, flat_one, List.length_append, row_length]; omega) (by simp)
       have hcell3 : w3.cell? ⟨g, 8, none⟩ = some (.map (some mb)) := (blk_cell H3.blk 8).trans rfl
       have hfr3 := Fr.own L2 fr3)
    | (at_mapUpdate; refine wpList_mapUpdate_own _ rfl (.tmp 41) (.tmp 42) (.tmp 43) 94 rfl 3 3 (Maps.int_keyed Try.underlying3) Try.underlying94 _ mb n st.mvd rfl L3.map (by have := L.mn; simp only [maxLen]; omega) (.int .i64 A) (.int .i64 T) (.int .i64 A) rfl rfl (Maps.keyOf_int_mk Try.underlying3 (wf_i64 hAr)) (.lit (.int .i64 T)) [] (plainElem_int Try.underlying3 (wf_i64 (by omega))) ?_; intro w4 hown4 hg4))
  go_ret2
  have f1 : Fr S w w1 := Fr.of_drawn hd1
  have f2 : Fr S w1 w2 := Fr.of_drawn hd2
  have f4 : Fr S w3 w4 := Fr.of_grown hg4 (fun k e => by cases e; exact L.s2)
  rw [hP, hT]
  exact ⟨rfl, ⟨_, _, _, _, mb, n + 1, (L3.mapped hown4 hg4 (by have := L.mn; simp; omega)).more (fun k h => h.imp id (fun h => Nat.le_trans (f1.trans f2).low.size h)), hmb⟩, ((f1.trans f2).trans hfr3).trans f4⟩
theorem IsMem.move (M : IsMem S w g st) (i : Nat) (hi : i < st.olds.length) (hno : Maps.has st.mvd (.int .i64 (st.f2 + (pos st.olds i : Int))) = false) (hroom : ((flat st.os).length : Int) + st.olds[i].fs.length + 1 ≤ st.size) :
    Calls Try.prog 53 #[.pointer (some ⟨g, 0, none⟩), .int .i64 (st.f2 + (pos st.olds i : Int))] w fun e w' => e = .returned (.tuple #[.int .i64 (st.f + ((flat st.os).length : Int)), .int .i64 0]) ∧
      IsMem (fun k => S k ∨ w.heap.size ≤ k) w' g { st with os := st.os ++ [st.olds[i]], mvd := st.mvd.put (.int .i64 (st.f2 + (pos st.olds i : Int))) (.lit (.int .i64 (st.f + ((flat st.os).length : Int)))) } ∧ Fr S w w' := by
  refine ((M.at_ (Nat.le_refl _)).move i hi hno hroom).mono ?_
  rintro e w' ⟨h1, h2, h3⟩
  exact ⟨h1, h2.mem, h3⟩
set_option maxHeartbeats 8000000 in
set_option maxRecDepth 100000 in
theorem IsMem.move_old (M : IsMem S w g st) (i : Nat) (hi : i < st.olds.length) (T : Int) (hyes : Maps.has st.mvd (.int .i64 (st.f2 + (pos st.olds i : Int))) = true) (hT : st.mvd.atKey (.int .i64 (st.f2 + (pos st.olds i : Int))) (.lit (.int .i64 0)) = .lit (.int .i64 T)) :
    Calls Try.prog 53 #[.pointer (some ⟨g, 0, none⟩), .int .i64 (st.f2 + (pos st.olds i : Int))] w fun e w' => e = .returned (.tuple #[.int .i64 T, .int .i64 0]) ∧ Drawn0 w w' := by
  obtain ⟨vw, vh, ow, oh, mb, n, L⟩ := M
  have hp := pos_head st.olds i hi
  have hf2 := ofs L
  have hfit := L.ofit
  have hsz := L.sz
  obtain ⟨A, hA⟩ : ∃ A : Int, st.f2 + (pos st.olds i : Int) = A := ⟨_, rfl⟩
  have hAr : -9223372036854775808 ≤ A ∧ A ≤ 9223372036854775807 := by omega
  have hY := L.old_yes i hi
  rw [hA] at hyes hY hT ⊢
  go_enter Try.func53, Try.ntmps53
  go_wp2_with (first
    | (go_at_call 67; (with_reducible refine hY.mono ?_); clear hY; rintro e w1 ⟨⟨gw, c, hv, hcap, rfl⟩, ⟨m1, rfl⟩⟩
       have hne := slice_there ⟨gw, pos st.olds i, none⟩ (st.olds[i].fs.length + 1) (c - pos st.olds i)
       have L1 := L.keep (w' := w.drewN m1) (T := fun _ => False) (Fr.of_drawn ⟨m1, rfl⟩) (fun _ _ h => h)
       have hcell1 : (w.drewN m1).cell? ⟨g, 8, none⟩ = some (.map (some mb)) := (blk_cell L1.H.blk 8).trans rfl)
    | (at_lookup; refine wpList_lookup_own_ok_int _ rfl (.tmp 23) (.tmp 24) 94 rfl 3 3 .i64 (Maps.int_keyed Try.underlying3) Try.underlying94 Try.underlying3 (zero3 _) mb n st.mvd rfl L1.map (.int .i64 A) (.int .i64 A) rfl (Maps.keyOf_int_mk Try.underlying3 (wf_i64 hAr)) ?_; intro cc hat hwfc; rw [hyes]
       obtain rfl : cc = T := by
         rw [hT] at hat
         injection hat with hat
         injection hat with _ hat
         exact hat.symm))
  go_ret2
  exact ⟨rfl, ⟨_, rfl⟩⟩
end Go.Proofs.Ytjccaojlldkmpaa.Mem
