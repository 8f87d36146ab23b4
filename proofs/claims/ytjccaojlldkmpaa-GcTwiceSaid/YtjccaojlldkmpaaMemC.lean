/- A memory's copy. -/
import Derived.BigRegion
import Derived.Deep.RegionHeld3
import Derived.Maps.Ext
import Derived.Maps.OwnOps
import Derived.Maps.RangeWalk
import Derived.Test.YtjccaojlldkmpaaMemA
namespace Go.Proofs.Ytjccaojlldkmpaa.Mem
open Go.RowKit Go.Proofs.YtjccaojlldkmpaaW.PrintWords Go.Proofs.YtjccaojlldkmpaaW.PrintLast Go.Proofs.YtjccaojlldkmpaaW.PrintMore
open Hf (rightB hdr headOf partsOf w64_of)
set_option linter.unusedSimpArgs false
set_option linter.unusedVariables false
variable {S : Nat → Prop} {w w' w0 : World} {g mb n : Nat} {st : St} {vw vh ow oh : Value}
set_option maxRecDepth 100000
/-- A row that was made since. -/
def New (w : World) (v : Value) : Prop := ∀ k, v.ownBlock = some k → w.heap.size ≤ k
def CopiedPost (w : World) (f : Int) (ws hs : List Int) (e : Ending) (w' : World) : Prop :=
  ∃ vw vh, e = .returned (.agg #[.int .i64 f, vw, vh]) ∧ Ws w' vw ws ∧ Hs w' vh hs ∧ New w vw ∧ New w vh ∧ Below w.heap.size w w'
set_option maxHeartbeats 8000000 in
set_option maxRecDepth 100000 in
theorem copied_any (w : World) (f : Int) (aw ah : Option Addr) (nw cw nh ch : Nat) (ws hs : List Int) (HW : Ws w (.slice aw nw cw) ws) (HH : Hs w (.slice ah nh ch) hs) (h1 : ws.length ≤ 70000) (h2 : hs.length ≤ 70000) :
    Calls Try.prog 73 #[.agg #[.int .i64 f, .slice aw nw cw, .slice ah nh ch]] w fun e w' => CopiedPost w f ws hs e w' := by
  have hn1 : ws.length = nw := (Kd.R_reads' HW).1.symm
  have hn2 : hs.length = nh := (Kd.R_reads' HH).1.symm
  have hCw := (Kd.R_reads' HW).2.2
  rw [hn1] at hCw
  have hCh := (Kd.R_reads' HH).2.2
  rw [hn2] at hCh
  have hb0 : ((w.alloc (.cells #[.int .i64 f, .slice aw nw cw, .slice ah nh ch] 93)).alloc (.cells #[.int .i64 0, .slice none 0 0, .slice none 0 0] 93)).heap[w.heap.size]? = some (.cells #[.int .i64 f, .slice aw nw cw, .slice ah nh ch] 93 (0, 0)) := blk_alloc (blk_new w _) _
  have hr0 : ((w.alloc (.cells #[.int .i64 f, .slice aw nw cw, .slice ah nh ch] 93)).alloc (.cells #[.int .i64 0, .slice none 0 0, .slice none 0 0] 93)).heap[w.heap.size + 1]? = some (.cells #[.int .i64 0, .slice none 0 0, .slice none 0 0] 93 (0, 0)) := by
    have := blk_new (w.alloc (.cells #[.int .i64 f, .slice aw nw cw, .slice ah nh ch] 93)) (.cells #[.int .i64 0, .slice none 0 0, .slice none 0 0] 93)
    rwa [World.size_alloc] at this
  have hB0 : Below w.heap.size w ((w.alloc (.cells #[.int .i64 f, .slice aw nw cw, .slice ah nh ch] 93)).alloc (.cells #[.int .i64 0, .slice none 0 0, .slice none 0 0] 93)) := ((Below.refl _ w).alloc (Nat.le_refl _) _).alloc (by simp) _
  have hs0 : ((w.alloc (.cells #[.int .i64 f, .slice aw nw cw, .slice ah nh ch] 93)).alloc (.cells #[.int .i64 0, .slice none 0 0, .slice none 0 0] 93)).heap.size = w.heap.size + 2 := by simp
  have hCw0 : (Kd.int .u64).C ((w.alloc (.cells #[.int .i64 f, .slice aw nw cw, .slice ah nh ch] 93)).alloc (.cells #[.int .i64 0, .slice none 0 0, .slice none 0 0] 93)) aw nw ws := Kd.C_below hCw hB0
  go_enter Try.func73, Try.ntmps73
  go_wp2_with (first
    | ((with_reducible refine gate_builtin (b := .append) (xs := #[.const (.slice none 0 0), .tmp 4]) rfl ?_); at_builtin; refine Kd.R_append_row (Value.int .u64) (0 : Int) (h1 := fun _ => rfl) 0 rfl (.const (.slice none 0 0)) (.tmp 4) 32 56 (.int .u64 0) 8 rfl Try.underlying32 info22 rfl (by decide) (.slice none 0 0) [] ws aw nw cw (fun _ => True) rfl rfl (fun _ _ => trivial) (Kd.R_nil _ _ _ _ _) hCw0 (Below.refl _ _) (Nat.zero_le _) (by simp; omega) ?_; intro v1 w2 ho2 hbel2 hg2 hat2
       rw [List.nil_append] at ho2
       have hb2 := blk_grown hb0 hg2 (by simp [Value.ownBlock])
       have hr2 := blk_grown hr0 hg2 (by simp [Value.ownBlock])
       have hB2 := hB0.grown hg2 hB0.size (fun k e => by simp [Value.ownBlock] at e)
       have hnew1 : New w v1 := fun k hk => by
         rcases hat2 with h | ⟨b, h, hbb⟩
         · rw [hk] at h; simp [Value.ownBlock] at h
         · rw [hk] at h; cases h; omega
       obtain ⟨a1, c1, rfl⟩ := Kd.R_slice ho2
       rw [hn1] at ho2 hnew1 ⊢
       clear hat2
       have d1 : w2.cell? ⟨w.heap.size, 1, none⟩ = some (.slice aw nw cw) := (blk_cell hb2 1).trans rfl
       have z1 := blk_frozen hb2 1
       have hb3 : (w2.setCell ⟨w.heap.size, 1, none⟩ (.slice a1 nw c1)).heap[w.heap.size]? = some (.cells #[.int .i64 f, .slice a1 nw c1, .slice ah nh ch] 93 (0, 0)) := blk_put hb2 1 _ rfl
       have hr3 : (w2.setCell ⟨w.heap.size, 1, none⟩ (.slice a1 nw c1)).heap[w.heap.size + 1]? = some (.cells #[.int .i64 0, .slice none 0 0, .slice none 0 0] 93 (0, 0)) := blk_far hr2 (by simp) _
       have hB3 := hB2.setCell (p := ⟨w.heap.size, 1, none⟩) (Nat.le_refl _) (.slice a1 nw c1)
       have hW3 := Kd.R_set ho2 hb2 (by intro q hq; simp [Kd.int, Kd.scalar] at hq; omega) 1 (.slice a1 nw c1)
       have d2 : (w2.setCell ⟨w.heap.size, 1, none⟩ (.slice a1 nw c1)).cell? ⟨w.heap.size, 2, none⟩ = some (.slice ah nh ch) := (blk_cell hb3 2).trans rfl
       have hCh3 := Kd.C_below hCh hB3
       have hsz3 := hB3.size)
    | ((with_reducible refine gate_builtin (b := .append) (xs := #[.const (.slice none 0 0), .tmp 8]) rfl ?_); at_builtin; refine Kd.R_append_row (Value.int .i64) (0 : Int) (h1 := fun _ => rfl) 0 rfl (.const (.slice none 0 0)) (.tmp 8) 23 3 (.int .i64 0) 8 rfl Try.underlying23 info3 rfl (by decide) (.slice none 0 0) [] hs ah nh ch (fun _ => True) rfl rfl (fun _ _ => trivial) (Kd.R_nil _ _ _ _ _) hCh3 (Below.refl _ _) (Nat.zero_le _) (by simp; omega) ?_; intro v4 w4 ho4 hbel4 hg4 hat4
       rw [List.nil_append] at ho4
       have hb4 := blk_grown hb3 hg4 (by simp [Value.ownBlock])
       have hr4 := blk_grown hr3 hg4 (by simp [Value.ownBlock])
       have hB4 := hB3.grown hg4 hB3.size (fun k e => by simp [Value.ownBlock] at e)
       have hnew4 : New w v4 := fun k hk => by
         rcases hat4 with h | ⟨b, h, hbb⟩
         · rw [hk] at h; simp [Value.ownBlock] at h
         · rw [hk] at h; cases h; omega
       have hW4 := keepW (T := fun _ => False) hW3 (Fr.of_grown hg4 (fun k e => by simp [Value.ownBlock] at e)) (fun _ _ h => h)
       obtain ⟨a4, c4, rfl⟩ := Kd.R_slice ho4
       rw [hn2] at ho4 hnew4 ⊢
       clear hat4
       have d3 : w4.cell? ⟨w.heap.size, 2, none⟩ = some (.slice ah nh ch) := (blk_cell hb4 2).trans rfl
       have z3 := blk_frozen hb4 2
       have hb5 : (w4.setCell ⟨w.heap.size, 2, none⟩ (.slice a4 nh c4)).heap[w.heap.size]? = some (.cells #[.int .i64 f, .slice a1 nw c1, .slice a4 nh c4] 93 (0, 0)) := blk_put hb4 2 _ rfl
       have hr5 : (w4.setCell ⟨w.heap.size, 2, none⟩ (.slice a4 nh c4)).heap[w.heap.size + 1]? = some (.cells #[.int .i64 0, .slice none 0 0, .slice none 0 0] 93 (0, 0)) := blk_far hr4 (by simp) _
       have hB5 := hB4.setCell (p := ⟨w.heap.size, 2, none⟩) (Nat.le_refl _) (.slice a4 nh c4)
       have hW5 := Kd.R_set hW4 hb4 (by intro q hq; simp [Kd.int, Kd.scalar] at hq; omega) 2 (.slice a4 nh c4)
       have hH5 := Kd.R_set ho4 hb4 (by intro q hq; simp [Kd.int, Kd.scalar] at hq; omega) 2 (.slice a4 nh c4)
       have e0 : (w4.setCell ⟨w.heap.size, 2, none⟩ (.slice a4 nh c4)).cell? ⟨w.heap.size, 0, none⟩ = some (.int .i64 f) := (blk_cell hb5 0).trans rfl
       have e1 : (w4.setCell ⟨w.heap.size, 2, none⟩ (.slice a4 nh c4)).cell? ⟨w.heap.size, 1, none⟩ = some (.slice a1 nw c1) := (blk_cell hb5 1).trans rfl
       have e2 : (w4.setCell ⟨w.heap.size, 2, none⟩ (.slice a4 nh c4)).cell? ⟨w.heap.size, 2, none⟩ = some (.slice a4 nh c4) := (blk_cell hb5 2).trans rfl
       have r0 : (w4.setCell ⟨w.heap.size, 2, none⟩ (.slice a4 nh c4)).cell? ⟨w.heap.size + 1, 0, none⟩ = some (.int .i64 0) := (blk_cell hr5 0).trans rfl
       have r1 : (w4.setCell ⟨w.heap.size, 2, none⟩ (.slice a4 nh c4)).cell? ⟨w.heap.size + 1, 1, none⟩ = some (.slice none 0 0) := (blk_cell hr5 1).trans rfl
       have r2 : (w4.setCell ⟨w.heap.size, 2, none⟩ (.slice a4 nh c4)).cell? ⟨w.heap.size + 1, 2, none⟩ = some (.slice none 0 0) := (blk_cell hr5 2).trans rfl
       have y0 := blk_frozen hr5 0
       have y1 := blk_frozen hr5 1
       have y2 := blk_frozen hr5 2))
  have hr6 := blk_put (blk_put (blk_put hr5 0 (.int .i64 f) rfl) 1 (.slice a1 nw c1) rfl) 2 (.slice a4 nh c4) rfl
  have fr6 := ((Fr.setg (w4.setCell ⟨w.heap.size, 2, none⟩ (.slice a4 nh c4)) (w.heap.size + 1) 0 (.int .i64 f)).trans (Fr.setg _ (w.heap.size + 1) 1 (.slice a1 nw c1))).trans (Fr.setg _ (w.heap.size + 1) 2 (.slice a4 nh c4))
  have hW6 := keepW hW5 fr6 (fun k hk e => by
    obtain ⟨cs, h1⟩ := Kd.R_typed hW5 k hk
    rw [e, hr5] at h1
    cases h1)
  have hH6 := keepH hH5 fr6 (fun k hk e => by
    obtain ⟨cs, h1⟩ := Kd.R_typed hH5 k hk
    rw [e, hr5] at h1
    cases h1)
  have hB6 := ((hB5.setCell (p := ⟨w.heap.size + 1, 0, none⟩) (Nat.le_succ _) (.int .i64 f)).setCell (p := ⟨w.heap.size + 1, 1, none⟩) (Nat.le_succ _) (.slice a1 nw c1)).setCell (p := ⟨w.heap.size + 1, 2, none⟩) (Nat.le_succ _) (.slice a4 nh c4)
  refine bodyPost_ret (results_cell_row rfl _ _ (w.heap.size + 1) 93 _ (0, 0) _ rfl hr6 Try.underlying93 rfl (by kernel_rfl)) rfl ?_
  exact ⟨_, _, rfl, hW6, hH6, hnew1, hnew4, hB6⟩
theorem cell_far3 {X : World} {g gc i : Nat} (h : g ≠ gc) {v : Value} (a b c : Nat) (x y z : Value) (hc : X.cell? ⟨g, i, none⟩ = some v) : (((X.setCell ⟨gc, a, none⟩ x).setCell ⟨gc, b, none⟩ y).setCell ⟨gc, c, none⟩ z).cell? ⟨g, i, none⟩ = some v := by
  have ne : ∀ m, (⟨gc, m, none⟩ : Addr) ≠ ⟨g, i, none⟩ := fun m e => by injection e with e _ _; exact h e.symm
  rw [World.cell?_setCell_other _ _ _ _ (ne c), World.cell?_setCell_other _ _ _ _ (ne b), World.cell?_setCell_other _ _ _ _ (ne a), hc]
theorem make_hint (W : World) (m : Int) : (Instr.makeMap 94 (some (.int .i64 m))).run Try.prog W = .ok (.map (some W.heap.size)) (W.alloc (.map #[] 0)) := by
  first
  | rfl
  | kernel_rfl
theorem law3 : Maps.Keyed Try.prog 3 := Maps.int_keyed Try.underlying3
set_option maxHeartbeats 16000000 in
set_option maxRecDepth 100000 in
theorem copy_raw (L : Lie S w g st vw vh ow oh mb n) (hSb : ∀ k, S k → k < w.heap.size) :
    Calls Try.prog 37 #[.pointer (some ⟨g, 0, none⟩)] w fun e w' => ∃ g', e = .returned (.pointer (some ⟨g', 0, none⟩)) ∧ IsMem (fun k => w.heap.size ≤ k) w' g' st ∧ Below w.heap.size w w' := by
  obtain ⟨a1, c1, rfl⟩ := Kd.R_slice L.H.ws
  obtain ⟨a2, c2, rfl⟩ := Kd.R_slice L.H.hs
  obtain ⟨a3, c3, rfl⟩ := Kd.R_slice L.ows
  obtain ⟨a4, c4, rfl⟩ := Kd.R_slice L.ohs
  have hll := len_le st.os
  have hll2 := len_le st.olds
  have hfit := L.fit
  have hofit := L.ofit
  have hsz := L.sz
  have hh1 := heads_length st.f st.os
  have hh2 := heads_length st.f2 st.olds
  obtain ⟨n1, hn1⟩ : ∃ n1, (flat st.os).length = n1 := ⟨_, rfl⟩
  obtain ⟨n2, hn2⟩ : ∃ n2, st.os.length = n2 := ⟨_, rfl⟩
  obtain ⟨n3, hn3⟩ : ∃ n3, (flat st.olds).length = n3 := ⟨_, rfl⟩
  obtain ⟨n4, hn4⟩ : ∃ n4, st.olds.length = n4 := ⟨_, rfl⟩
  rw [hh1, hh2, hn1, hn2, hn3, hn4] at L
  have hb := L.H.blk
  have k0 : w.cell? ⟨g, 0, none⟩ = some (.int .i64 st.size) := (blk_cell hb 0).trans rfl
  have k1 : w.cell? ⟨g, 1, none⟩ = some (.int .i64 st.half) := (blk_cell hb 1).trans rfl
  have k2 : w.cell? ⟨g, 2, none⟩ = some (.int .i64 st.f) := (blk_cell hb 2).trans rfl
  have k3 : w.cell? ⟨g, 3, none⟩ = some (.slice a1 n1 c1) := (blk_cell hb 3).trans rfl
  have k4 : w.cell? ⟨g, 4, none⟩ = some (.slice a2 n2 c2) := (blk_cell hb 4).trans rfl
  have k5 : w.cell? ⟨g, 5, none⟩ = some (.int .i64 st.f2) := (blk_cell hb 5).trans rfl
  have k6 : w.cell? ⟨g, 6, none⟩ = some (.slice a3 n3 c3) := (blk_cell hb 6).trans rfl
  have k7 : w.cell? ⟨g, 7, none⟩ = some (.slice a4 n4 c4) := (blk_cell hb 7).trans rfl
  have k8 : w.cell? ⟨g, 8, none⟩ = some (.map (some mb)) := (blk_cell hb 8).trans rfl
  go_enter Try.func37, Try.ntmps37
  go_wp2_with fail
  have hgl := blk_lt hb
  have hne : g ≠ w.heap.size := by omega
  have hne' : w.heap.size ≠ g := by omega
  obtain ⟨vv, hvv⟩ : ∃ vv : Array Value, vv = #[.int .i64 st.size, .int .i64 st.half, .int .i64 st.f, .slice a1 n1 c1, .slice a2 n2 c2, .int .i64 st.f2, .slice a3 n3 c3, .slice a4 n4 c4, .map (some mb)] := ⟨_, rfl⟩
  rw [← hvv]
  have hc1 := blk_new w (.cells vv 96)
  have hB1 := (Below.refl _ w).alloc (Nat.le_refl _) (.cells vv 96)
  have L1 := L.keep (w' := w.alloc (.cells vv 96)) (T := fun _ => False) (Fr.of_below ((Below.refl _ w).alloc (Nat.le_refl _) _)) (fun _ _ h => h)
  revert hc1 hB1 L1
  generalize w.alloc (.cells vv 96) = w1
  intro hc1 hB1 L1
  clear k0 k1 k2 k3 k4 k5 k6 k7 k8 hb
  have m2 : w1.drew.cell? ⟨g, 2, none⟩ = some (.int .i64 st.f) := (blk_cell L1.H.blk 2).trans rfl
  have m3 : w1.drew.cell? ⟨g, 3, none⟩ = some (.slice a1 n1 c1) := (blk_cell L1.H.blk 3).trans rfl
  have m4 : w1.drew.cell? ⟨g, 4, none⟩ = some (.slice a2 n2 c2) := (blk_cell L1.H.blk 4).trans rfl
  have m5 : w1.drew.cell? ⟨g, 5, none⟩ = some (.int .i64 st.f2) := (blk_cell L1.H.blk 5).trans rfl
  have m6 : w1.drew.cell? ⟨g, 6, none⟩ = some (.slice a3 n3 c3) := (blk_cell L1.H.blk 6).trans rfl
  have m7 : w1.drew.cell? ⟨g, 7, none⟩ = some (.slice a4 n4 c4) := (blk_cell L1.H.blk 7).trans rfl
  go_region_held3 (fun W' => W'.cell? ⟨g, 2, none⟩ = some (.int .i64 st.f) ∧ W'.cell? ⟨g, 3, none⟩ = some (.slice a1 n1 c1) ∧ W'.cell? ⟨g, 4, none⟩ = some (.slice a2 n2 c2) ∧ W'.cell? ⟨g, 5, none⟩ = some (.int .i64 st.f2) ∧ W'.cell? ⟨g, 6, none⟩ = some (.slice a3 n3 c3) ∧ W'.cell? ⟨g, 7, none⟩ = some (.slice a4 n4 c4))
    (first | (with_reducible exact ⟨m2, m3, m4, m5, m6, m7⟩) | (with_reducible exact ⟨cell_far3 hne _ _ _ _ _ _ m2, cell_far3 hne _ _ _ _ _ _ m3, cell_far3 hne _ _ _ _ _ _ m4, cell_far3 hne _ _ _ _ _ _ m5, cell_far3 hne _ _ _ _ _ _ m6, cell_far3 hne _ _ _ _ _ _ m7⟩) | (with_reducible exact ⟨cell_far3 hne _ _ _ _ _ _ (cell_far3 hne _ _ _ _ _ _ m2), cell_far3 hne _ _ _ _ _ _ (cell_far3 hne _ _ _ _ _ _ m3), cell_far3 hne _ _ _ _ _ _ (cell_far3 hne _ _ _ _ _ _ m4), cell_far3 hne _ _ _ _ _ _ (cell_far3 hne _ _ _ _ _ _ m5), cell_far3 hne _ _ _ _ _ _ (cell_far3 hne _ _ _ _ _ _ m6), cell_far3 hne _ _ _ _ _ _ (cell_far3 hne _ _ _ _ _ _ m7)⟩))
    (first
      | (go_at_call 73; (with_reducible refine (copied_any w1.drew st.f a1 a2 n1 c1 n2 c2 (flat st.os) (heads st.f st.os) (Kd.R_drew L1.H.ws) (Kd.R_drew L1.H.hs) (by omega) (by omega)).mono ?_); rintro e w2 ⟨vw', vh', rfl, hW2, hH2, nw2, nh2, hb2⟩; have L2 := L1.keep (T := fun _ => False) (Fr.of_below ⟨hb2.os, hb2.tape, hb2.output, hb2.size, hb2.block⟩) (fun _ _ h => h); have L1' := L1; clear L1; have L1 := L2; clear L2; have hc2 := (hb2.block w.heap.size (blk_lt hc1)).trans hc1; have hB2 : Below w.heap.size w w2 := hB1.trans (Below.mono ⟨hb2.os, hb2.tape, hb2.output, hb2.size, hb2.block⟩ hB1.size); clear hb2; have m2 : w2.cell? ⟨g, 2, none⟩ = some (.int .i64 st.f) := (blk_cell L1.H.blk 2).trans rfl; have m3 : w2.cell? ⟨g, 3, none⟩ = some (.slice a1 n1 c1) := (blk_cell L1.H.blk 3).trans rfl; have m4 : w2.cell? ⟨g, 4, none⟩ = some (.slice a2 n2 c2) := (blk_cell L1.H.blk 4).trans rfl; have m5 : w2.cell? ⟨g, 5, none⟩ = some (.int .i64 st.f2) := (blk_cell L1.H.blk 5).trans rfl; have m6 : w2.cell? ⟨g, 6, none⟩ = some (.slice a3 n3 c3) := (blk_cell L1.H.blk 6).trans rfl; have m7 : w2.cell? ⟨g, 7, none⟩ = some (.slice a4 n4 c4) := (blk_cell L1.H.blk 7).trans rfl)
      | (go_at_call 73; (with_reducible refine (copied_any w2 st.f2 a3 a4 n3 c3 n4 c4 (flat st.olds) (heads st.f2 st.olds) L1.ows L1.ohs (by omega) (by omega)).mono ?_); rintro e w3 ⟨vo', vp', rfl, hW3, hH3, nw3, nh3, hb3⟩; have L2 := L1.keep (T := fun _ => False) (Fr.of_below hb3) (fun _ _ h => h); clear L1; have L1 := L2; clear L2; have hc3 := (hb3.block w.heap.size (blk_lt hc2)).trans hc2; have hB3 : Below w.heap.size w w3 := hB2.trans (hb3.mono hB2.size); have hW2' := Kd.R_below hW2 hb3; have hH2' := Kd.R_below hH2 hb3; obtain ⟨b1, e1, rfl⟩ := Kd.R_slice hW2'; obtain ⟨b2, e2, rfl⟩ := Kd.R_slice hH2'; obtain ⟨b3, e3, rfl⟩ := Kd.R_slice hW3; obtain ⟨b4, e4, rfl⟩ := Kd.R_slice hH3; subst hvv; have p2 := (blk_cell hc3 2).trans rfl; have p3 := (blk_cell hc3 3).trans rfl; have p4 := (blk_cell hc3 4).trans rfl; have p5 := (blk_cell hc3 5).trans rfl; have p6 := (blk_cell hc3 6).trans rfl; have p7 := (blk_cell hc3 7).trans rfl; have z2 := blk_frozen hc3 2; have z3 := blk_frozen hc3 3; have z4 := blk_frozen hc3 4; have z5 := blk_frozen hc3 5; have z6 := blk_frozen hc3 6; have z7 := blk_frozen hc3 7; have m2 : w3.cell? ⟨g, 2, none⟩ = some (.int .i64 st.f) := (blk_cell L1.H.blk 2).trans rfl; have m3 : w3.cell? ⟨g, 3, none⟩ = some (.slice a1 n1 c1) := (blk_cell L1.H.blk 3).trans rfl; have m4 : w3.cell? ⟨g, 4, none⟩ = some (.slice a2 n2 c2) := (blk_cell L1.H.blk 4).trans rfl; have m5 : w3.cell? ⟨g, 5, none⟩ = some (.int .i64 st.f2) := (blk_cell L1.H.blk 5).trans rfl; have m6 : w3.cell? ⟨g, 6, none⟩ = some (.slice a3 n3 c3) := (blk_cell L1.H.blk 6).trans rfl; have m7 : w3.cell? ⟨g, 7, none⟩ = some (.slice a4 n4 c4) := (blk_cell L1.H.blk 7).trans rfl))
  have hc4 := blk_put (blk_put (blk_put (blk_put (blk_put (blk_put hc3 2 (.int .i64 st.f) rfl) 3 (.slice b1 (flat st.os).length e1) rfl) 4 (.slice b2 (heads st.f st.os).length e2) rfl) 5 (.int .i64 st.f2) rfl) 6 (.slice b3 (flat st.olds).length e3) rfl) 7 (.slice b4 (heads st.f2 st.olds).length e4) rfl
  have fr4 := (((((Fr.setg w3 w.heap.size 2 (.int .i64 st.f)).trans (Fr.setg _ w.heap.size 3 (.slice b1 (flat st.os).length e1))).trans (Fr.setg _ w.heap.size 4 (.slice b2 (heads st.f st.os).length e2))).trans (Fr.setg _ w.heap.size 5 (.int .i64 st.f2))).trans (Fr.setg _ w.heap.size 6 (.slice b3 (flat st.olds).length e3))).trans (Fr.setg _ w.heap.size 7 (.slice b4 (heads st.f2 st.olds).length e4))
  rw [hh1, hh2, hn1, hn2, hn3, hn4] at hc4 fr4
  rw [hh1, hn2] at hH2'
  rw [hh2, hn4] at hH3
  rw [hn1] at hW2'
  rw [hn3] at hW3
  have newW : ∀ {X : World} {v : Value} {xs : List Int}, Ws X v xs → (∃ cs, X.heap[w.heap.size]? = some (.cells cs 96 (0, 0))) → ∀ k, v.ownBlock = some k → ¬ k = w.heap.size := fun h hc k hk e => by
    obtain ⟨cs, h1⟩ := Kd.R_typed h k hk
    obtain ⟨cs', h2⟩ := hc
    rw [e, h2] at h1
    cases h1
  have newH : ∀ {X : World} {v : Value} {xs : List Int}, Hs X v xs → (∃ cs, X.heap[w.heap.size]? = some (.cells cs 96 (0, 0))) → ∀ k, v.ownBlock = some k → ¬ k = w.heap.size := fun h hc k hk e => by
    obtain ⟨cs, h1⟩ := Kd.R_typed h k hk
    obtain ⟨cs', h2⟩ := hc
    rw [e, h2] at h1
    cases h1
  have r1 := keepW hW2' fr4 (newW hW2' ⟨_, hc3⟩)
  have r2 := keepH hH2' fr4 (newH hH2' ⟨_, hc3⟩)
  have r3 := keepW hW3 fr4 (newW hW3 ⟨_, hc3⟩)
  have r4 := keepH hH3 fr4 (newH hH3 ⟨_, hc3⟩)
  have L4 := L1.keep fr4 (fun k hk e => by have := hSb k hk; omega)
  have hB4 : Below w.heap.size w _ := hB3.trans ⟨fr4.low.os, fr4.low.tape, fr4.low.output, fr4.low.size, fun k hk => fr4.same k (Nat.lt_of_lt_of_le hk hB3.size) (by omega)⟩
  rw [hn1] at hW2 nw2
  rw [hh1, hn2] at hH2 nh2
  rw [hn3] at nw3
  rw [hh2, hn4] at nh3
  have hap1 : ∀ k, (Value.slice b1 n1 e1).ownBlock = some k → (Value.slice b3 n3 e3).ownBlock ≠ some k := fun k hk e => by
    have h1 := Kd.R_lt hW2 k hk
    have h2 := nw3 k e
    omega
  have hap2 : ∀ k, (Value.slice b2 n2 e2).ownBlock = some k → (Value.slice b4 n4 e4).ownBlock ≠ some k := fun k hk e => by
    have h1 := Kd.R_lt hH2 k hk
    have h2 := nh3 k e
    omega
  have hz1 : w1.drew.heap.size = w1.heap.size := rfl
  have hz2 := hB1.size
  have hz3 := hB2.size
  have hq1 : ∀ k, (Value.slice b1 n1 e1).ownBlock = some k → w.heap.size ≤ k := fun k hk => by
    have h2 := nw2 k hk
    omega
  have hq2 : ∀ k, (Value.slice b2 n2 e2).ownBlock = some k → w.heap.size ≤ k := fun k hk => by
    have h2 := nh2 k hk
    omega
  have hq3 : ∀ k, (Value.slice b3 n3 e3).ownBlock = some k → w.heap.size ≤ k := fun k hk => by
    have h2 := nw3 k hk
    omega
  have hq4 : ∀ k, (Value.slice b4 n4 e4).ownBlock = some k → w.heap.size ≤ k := fun k hk => by
    have h2 := nh3 k hk
    omega
  clear hz1 hz2 hz3
  clear p2 p3 p4 p5 p6 p7 z2 z3 z4 z5 z6 z7 m2 m3 m4 m5 m6 m7 fr4 hc3 hB3 L1 hW2' hH2' hW3 hH3
  revert hc4 r1 r2 r3 r4 L4 hB4
  generalize ((((((w3.setCell { block := w.heap.size, off := 2 } (Value.int IntKind.i64 st.f)).setCell { block := w.heap.size, off := 3 } (Value.slice b1 n1 e1)).setCell { block := w.heap.size, off := 4 } (Value.slice b2 n2 e2)).setCell { block := w.heap.size, off := 5 } (Value.int IntKind.i64 st.f2)).setCell { block := w.heap.size, off := 6 } (Value.slice b3 n3 e3)).setCell { block := w.heap.size, off := 7 } (Value.slice b4 n4 e4)) = w4
  intro hc4 r1 r2 r3 r4 L4 hB4
  have k8 : w4.cell? ⟨g, 8, none⟩ = some (.map (some mb)) := (blk_cell L4.H.blk 8).trans rfl
  have hlen := fun ty => L4.map.len Try.underlying94 ty
  have hmk := make_hint
  have hgc4 : w.heap.size < w4.heap.size := blk_lt hc4
  have fr5 : Fr (fun k => k = w.heap.size) w4 ((w4.setCell ⟨w.heap.size, 8, none⟩ (.map (some w4.heap.size))).alloc (.map #[] 0)) := (Fr.setg _ w.heap.size 8 _).trans (Fr.of_below ((Below.refl _ _).alloc (Nat.le_refl _) _))
  have L5 := L4.keep fr5 (fun k hk e => by have := hSb k hk; omega)
  have c8 : (w4.alloc (.map #[] 0)).cell? ⟨w.heap.size, 8, none⟩ = some (.map (some mb)) := (blk_cell (blk_alloc hc4 (.map #[] 0)) 8).trans rfl
  have z8 : (w4.alloc (.map #[] 0)).frozen? ⟨w.heap.size, 8, none⟩ = false := blk_frozen (blk_alloc hc4 (.map #[] 0)) 8
  have hc5 : ((w4.setCell ⟨w.heap.size, 8, none⟩ (.map (some w4.heap.size))).alloc (.map #[] 0)).heap[w.heap.size]? = _ := blk_alloc (blk_put hc4 8 (.map (some w4.heap.size)) rfl) (.map #[] 0)
  have k85 : ((w4.setCell ⟨w.heap.size, 8, none⟩ (.map (some w4.heap.size))).alloc (.map #[] 0)).cell? ⟨g, 8, none⟩ = some (.map (some mb)) := (blk_cell L5.H.blk 8).trans rfl
  have hm5 : ((w4.setCell ⟨w.heap.size, 8, none⟩ (.map (some w4.heap.size))).alloc (.map #[] 0)).heap[w4.heap.size]? = some (.map #[] 0) := by
    have h := blk_new (w4.setCell ⟨w.heap.size, 8, none⟩ (.map (some w4.heap.size))) (.map #[] 0)
    rwa [World.size_setCell] at h
  have s5 : ((w4.setCell ⟨w.heap.size, 8, none⟩ (.map (some w4.heap.size))).alloc (.map #[] 0)).heap.size = w4.heap.size + 1 := by simp
  go_wp2_with (first
    | (at_range; refine wpList_range_own _ rfl _ 94 rfl 3 3 law3 Try.underlying94 _ mb n st.mvd rfl L5.map ?_; intro w6 hrg0 hg0 hs0))
  rw [s5] at hrg0 hs0
  have hs6 : w6.heap.size = w4.heap.size + 2 := by omega
  have hc6 := (hg0.block w.heap.size (by rw [s5]; omega) (by simp)).trans hc5
  have hm6 := (World.ownsMap_made (H := Unit) (w4.setCell ⟨w.heap.size, 8, none⟩ (.map (some w4.heap.size))) Try.prog 3 (plainElem Try.prog 3)).kept hg0 (by simp)
  rw [World.size_setCell] at hm6
  have fr6 : Fr (fun k => k = w.heap.size) w4 w6 := fr5.trans (Fr.of_grown hg0 (fun k e => by cases e))
  have hmbl := hSb mb L.s2
  rw [s5]
  go_frame
  go_loopw [4, 5] (fun _ _ wr => ∃ (left : Lit → Bool) (cnt : Nat) (Dout : DataW Unit), wr.ranges Try.prog 3 (plainElem Try.prog 3) mb (w4.heap.size + 1) n st.mvd left cnt ∧ cnt ≤ Maps.size st.mvd ∧
      wr.ownsMap Try.prog 3 (plainElem Try.prog 3) w4.heap.size (Maps.size st.mvd - cnt) Dout ∧ Maps.Agree Dout st.mvd left ∧ Fr (fun k => k = w4.heap.size + 1 ∨ k = w4.heap.size) w6 wr)
    (fun _ _ wr => wr.rangeLeft mb (w4.heap.size + 1))
  case atStart =>
    exact ⟨_, _, .map [], hrg0, Nat.le_refl _, hm6.mono (Nat.zero_le _), Maps.agree_start st.mvd, Fr.refl _ _⟩
  case round =>
    obtain ⟨left, cnt, Dout, hrg, hcs, hout, hA, hfr⟩ := hrel
    go_wp2_with (first
      | (at_next; refine wpList_next_ranges_ii _ rfl _ rfl 3 3 .i64 .i64 law3 Try.underlying3 Try.underlying3 mb (w4.heap.size + 1) n _ _ _ rfl hrg ?_ ?_))
    · intro hc0 hl0
      go_wp2
      go_ret
      subst hc0
      have e := Maps.agree_end hA hl0 (hout.canon law3) (L.map.canon law3)
      subst e
      have hcE := (hfr.same w.heap.size (by omega) (by omega)).trans hc6
      have frE : Fr (fun k => k = w.heap.size ∨ k = w4.heap.size + 1 ∨ k = w4.heap.size) w4 _ := (fr6.mono (fun k _ h => .inl h)).trans (hfr.mono (fun k _ h => .inr h))
      refine ⟨w.heap.size, rfl, ⟨.slice b1 n1 e1, .slice b2 n2 e2, .slice b3 n3 e3, .slice b4 n4 e4, w4.heap.size, _, ⟨hcE.trans rfl, ?_, ?_, L.H.ok, L.H.hf, L.H.hl⟩, L.sz, L.hf, L.fit, L.ofit, ?_, ?_, L.ook, hout, ?_, hap1, hap2, Nat.le_refl _, by omega, hq1, hq2, hq3, hq4⟩, ?_⟩
      · exact keepW (keepW r1 fr6 (newW r1 ⟨_, hc4⟩)) hfr (fun k hk h => by have := Kd.R_lt r1 k hk; omega)
      · exact keepH (keepH r2 fr6 (newH r2 ⟨_, hc4⟩)) hfr (fun k hk h => by have := Kd.R_lt r2 k hk; omega)
      · exact keepW (keepW r3 fr6 (newW r3 ⟨_, hc4⟩)) hfr (fun k hk h => by have := Kd.R_lt r3 k hk; omega)
      · exact keepH (keepH r4 fr6 (newH r4 ⟨_, hc4⟩)) hfr (fun k hk h => by have := Kd.R_lt r4 k hk; omega)
      · have h1 := L.map.size_le
        have h2 := L.mn
        omega
      · exact hB4.trans ⟨frE.low.os, frE.low.tape, frE.low.output, frE.low.size, fun k hk => frE.same k (Nat.lt_of_lt_of_le hk hB4.size) (by omega)⟩
    · intro x c w7 cnt1 hwx hwc hlx hat hrg1 hlt hg1 hs1 hen
      have hout1 := hout.kept hg1 (by simp)
      have fr7 := hfr.trans (Fr.of_grown hg1 (fun k e => by cases e; exact .inl rfl))
      have c7 := (blk_cell ((fr7.same w.heap.size (by omega) (by omega)).trans hc6) 8).trans rfl
      have hsl := L.map.size_le
      have hmn := L.mn
      have hml : Maps.size st.mvd - cnt < maxLen := by
        have h65 : (65536 : Nat) < maxLen := by decide
        omega
      go_wp2_with (first
        | (at_mapUpdate; refine wpList_mapUpdate_own _ rfl _ _ _ 94 rfl 3 3 law3 Try.underlying94 _ w4.heap.size _ _ rfl hout1 hml _ _ _ rfl rfl (Maps.keyOf_int_mk Try.underlying3 hwx) _ [] (plainElem_int Try.underlying3 hwc) ?_; intro w8 hout2 hg2; go_frame))
      have hrg2 := hrg1.kept hg2 (fun e => by have := Option.some.inj e; omega) (fun e => by have := Option.some.inj e; omega)
      go_roundw
      case rel =>
        exact ⟨_, cnt1, _, hrg2, by omega, hout2.mono (by omega), Maps.agree_step hA hout.isMap trivial hat, fr7.trans (Fr.of_grown hg2 (fun k e => by cases e; exact .inr rfl))⟩
      case measure => rw [hrg2.left_eq, hrg.left_eq]; exact hlt
/-- Copy. -/
theorem IsMem.copy (M : IsMem S w g st) (hSb : ∀ k, S k → k < w.heap.size) :
    Calls Try.prog 37 #[.pointer (some ⟨g, 0, none⟩)] w fun e w' => ∃ g', e = .returned (.pointer (some ⟨g', 0, none⟩)) ∧ IsMem (fun k => w.heap.size ≤ k) w' g' st ∧ Below w.heap.size w w' := by
  obtain ⟨vw, vh, ow, oh, mb, n, L⟩ := M
  exact copy_raw L hSb
end Go.Proofs.Ytjccaojlldkmpaa.Mem
