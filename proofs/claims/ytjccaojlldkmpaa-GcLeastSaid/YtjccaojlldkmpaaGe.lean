/- gc.Live; gc.Collect where nothing goes. -/
import Derived.Test.YtjccaojlldkmpaaGc
namespace Go.Proofs.Ytjccaojlldkmpaa.Mem
open Go.RowKit Go.Proofs.YtjccaojlldkmpaaW.PrintWords Go.Proofs.YtjccaojlldkmpaaW.PrintLast Go.Proofs.YtjccaojlldkmpaaW.PrintMore
open Hf (rightB hdr headOf partsOf)
open Rg
set_option linter.unusedSimpArgs false
set_option linter.unusedVariables false
set_option maxRecDepth 100000
variable {S : Nat → Prop} {w W W' w' : World} {g n B : Nat} {st : St}
theorem collect_no (M : IsMem S w g st) (A : Option Addr) (c : Nat) (xs : List Int) (hC : Kd.C (Kd.int .u64) w A xs.length xs) (hx : ∀ x ∈ xs, 0 ≤ x ∧ x < 18446744073709551616) (hxl : xs.length ≤ 100000) (hL : (walkP st.f st.os xs).2 = false) :
    Calls Try.prog 19 #[.pointer (some ⟨g, 0, none⟩), .slice A xs.length c] w fun e W => e = .returned (.tuple #[.slice none 0 0, .int .i64 40]) ∧ Below w.heap.size w W := by
  have hCh : ∀ W, Below w.heap.size w W → _ := fun W hb => check_any (M.below hb) A c xs (Kd.C_below hC hb) hx hxl
  rw [hL] at hCh
  go_enter Try.func19, Try.ntmps19
  go_wp2_with (first
    | (go_at_call 26; (with_reducible refine (hCh _ (below_alloc (Below.refl _ _) _)).mono ?_); clear hCh; rintro e w2 ⟨rfl, hb2⟩))
  go_ret2
  exact ⟨rfl, below_step (below_alloc (Below.refl _ w) (.cells #[.pointer (some ⟨g, 0, none⟩)] 26)) hb2⟩
theorem collect_nil (v : Value) (w : World) : Calls Try.prog 19 #[.pointer none, v] w fun e W => e = .returned (.tuple #[.slice none 0 0, .int .i64 2]) ∧ Below w.heap.size w W := by
  go_enter Try.func19, Try.ntmps19
  go_wp2_with (first
    | (go_at_call 26; (with_reducible refine (check_nil _ _).mono ?_); rintro e w2 ⟨rfl, rfl⟩))
  go_ret2
  exact ⟨rfl, below_alloc (Below.refl _ w) _⟩
theorem live_nil (v : Value) (w : World) : Calls Try.prog 28 #[.pointer none, v] w fun e W => e = .returned (.tuple #[.int .i64 0, .int .i64 2]) ∧ Below w.heap.size w W := by
  go_enter Try.func28, Try.ntmps28
  go_wp2_with (first
    | (go_at_call 26; (with_reducible refine (check_nil _ _).mono ?_); rintro e w2 ⟨rfl, rfl⟩))
  go_ret2
  exact ⟨rfl, below_alloc (Below.refl _ w) _⟩
theorem live_no (M : IsMem S w g st) (A : Option Addr) (c : Nat) (xs : List Int) (hC : Kd.C (Kd.int .u64) w A xs.length xs) (hx : ∀ x ∈ xs, 0 ≤ x ∧ x < 18446744073709551616) (hxl : xs.length ≤ 100000) (hL : (walkP st.f st.os xs).2 = false) :
    Calls Try.prog 28 #[.pointer (some ⟨g, 0, none⟩), .slice A xs.length c] w fun e W => e = .returned (.tuple #[.int .i64 0, .int .i64 40]) ∧ Below w.heap.size w W := by
  have hCh : ∀ W, Below w.heap.size w W → _ := fun W hb => check_any (M.below hb) A c xs (Kd.C_below hC hb) hx hxl
  rw [hL] at hCh
  go_enter Try.func28, Try.ntmps28
  go_wp2_with (first
    | (go_at_call 26; (with_reducible refine (hCh _ (below_alloc (Below.refl _ _) _)).mono ?_); clear hCh; rintro e w2 ⟨rfl, hb2⟩))
  go_ret2
  exact ⟨rfl, below_step (below_alloc (Below.refl _ w) (.cells #[.pointer (some ⟨g, 0, none⟩)] 26)) hb2⟩
/-- The loop of Live. -/
structure Lv (w W : World) (g bm bn bo : Nat) (l : List Int) (A : Option Addr) (c : Nat) (n : Int) : Prop where
  hb : Below w.heap.size w W
  m : W.heap[bm]? = some (.cells #[.pointer (some ⟨g, 0, none⟩)] 26 (0, 0))
  n : W.heap[bn]? = some (.cells #[.int .i64 n] 3 (0, 0))
  o : W.heap[bo]? = some (.cells #[.slice A l.length c] 23 (0, 0))
  r : (Kd.int .i64).R 3 W 0 (fun k => k ≠ bn) (.slice A l.length c) l
  g1 : w.heap.size ≤ bm
  g2 : w.heap.size ≤ bn
  nm : bn ≠ bm
  nw : bn ≠ bo
theorem Lv.same {bm bn bo : Nat} {l : List Int} {A : Option Addr} {c : Nat} {k : Int} (K : Lv w W g bm bn bo l A c k) (hb : Below W.heap.size W W') : Lv w W' g bm bn bo l A c k :=
  ⟨below_step K.hb hb, blk_below K.m hb, blk_below K.n hb, blk_below K.o hb, Kd.R_below K.r hb, K.g1, K.g2, K.nm, K.nw⟩
theorem Lv.put {bm bn bo : Nat} {l : List Int} {A : Option Addr} {c : Nat} {k : Int} (K : Lv w W g bm bn bo l A c k) (v : Int) : Lv w (W.setCell ⟨bn, 0, none⟩ (.int .i64 v)) g bm bn bo l A c v :=
  ⟨below_set K.hb K.g2, blk_far K.m (fun e => K.nm e.symm) _, blk_put K.n 0 _ rfl, blk_far K.o (fun e => K.nw e.symm) _, Kd.R_far K.r (fun k hk => hk) _, K.g1, K.g2, K.nm, K.nw⟩
theorem Lv.kept {bm bn bo : Nat} {l : List Int} {A : Option Addr} {c : Nat} {k : Int} (K : Lv w W g bm bn bo l A c k) {B' : Nat} {row : Option Nat} (hg : W.grownBy W' row) (h : ∀ r, row = some r → B' ≤ r ∧ ∃ o : Obj, W.heap[r]? = some o ∧ o.isCells = false) (hw : w.heap.size ≤ B') :
    Lv w W' g bm bn bo l A c k := by
  have nc : ∀ {k : Nat} {o : Obj}, W.heap[k]? = some o → o.isCells = true → some k ≠ row := fun hk ho e => by
    obtain ⟨-, o', h1, h2⟩ := h _ e.symm
    rw [hk] at h1
    cases h1
    rw [ho] at h2
    cases h2
  have fr : Fr (fun k => row = some k) W W' := Fr.of_grown hg (fun k e => e)
  refine ⟨⟨fr.low.os.trans K.hb.os, fr.low.tape.trans K.hb.tape, fr.low.output.trans K.hb.output, Nat.le_trans K.hb.size fr.low.size, fun k hk => (fr.same k (Nat.lt_of_lt_of_le hk K.hb.size) (fun e => by have := (h k e).1; omega)).trans (K.hb.block k hk)⟩,
    (hg.block _ (blk_lt K.m) (nc K.m rfl)).trans K.m, (hg.block _ (blk_lt K.n) (nc K.n rfl)).trans K.n, (hg.block _ (blk_lt K.o) (nc K.o rfl)).trans K.o, ?_, K.g1, K.g2, K.nm, K.nw⟩
  refine Kd.R_mono (Kd.R_step (Kd.R_bound K.r) (fun k hk hl => ?_)) (fun k hk => hk.1)
  obtain ⟨-, -, -, q, -, cells, hc⟩ := hk
  exact hg.block k hl (nc hc rfl)
attribute [local go_sem] Oper.semAt_some
set_option maxHeartbeats 8000000 in
theorem live_any (M : IsMem S w g st) (A : Option Addr) (c : Nat) (xs : List Int) (hC : Kd.C (Kd.int .u64) w A xs.length xs) (hx : ∀ x ∈ xs, 0 ≤ x ∧ x < 18446744073709551616) (hxl : xs.length ≤ 100000) {L : List Int} (hL : walkP st.f st.os xs = (L, true)) :
    Calls Try.prog 28 #[.pointer (some ⟨g, 0, none⟩), .slice A xs.length c] w fun e W => e = .returned (.tuple #[.int .i64 ((flat (L.map (obAt st.f st.os))).length : Int), .int .i64 0]) ∧ Below w.heap.size w W := by
  have hCh : ∀ W, Below w.heap.size w W → _ := fun W hb => check_any (M.below hb) A c xs (Kd.C_below hC hb) hx hxl
  have hRe : ∀ W, Below w.heap.size w W → _ := fun W hb => reach_any (M.below hb) A c xs (Kd.C_below hC hb) hx hxl
  have hre : reachL st xs = L := by unfold reachL; rw [hL]; rfl
  rw [hre] at hRe
  rw [hL] at hCh
  have hOL : Ord st.f st.os L := by have := Ord.walkP st.f st.os xs; rw [hL] at this; exact this
  have hfit := ord_fit hOL
  obtain ⟨hf1, hf2, hf3⟩ := M.fbound
  have hll := hOL.len
  have hml := M.os_len
  refine (callsIn_wide (n := 5)).1 (callsIn_of_wp_marks Try.func28 rfl trivial ?_ rfl)
  simp only [Try.ntmps28, List.size_toArray, List.length_cons, List.length_nil, Nat.reduceAdd, Nat.reduceSub, Array.replicate_succ, Array.replicate_zero, List.push_toArray, List.append_toArray, List.nil_append, List.cons_append]
  refine wpIn_wide.2 ?_
  go_wp2_with (first
    | (go_at_call 26; (with_reducible refine (hCh _ (below_alloc (Below.refl _ _) _)).mono ?_); clear hCh; rintro e w2 ⟨rfl, hb2⟩
       have hm2 := blk_below (blk_new w (.cells #[.pointer (some ⟨g, 0, none⟩)] 26)) hb2
       have hbw := below_step (below_alloc (Below.refl _ w) (.cells #[.pointer (some ⟨g, 0, none⟩)] 26)) hb2
       have hm3 := blk_alloc hm2 (.cells #[.int .i64 0] 3)
       have hcm : (w2.alloc (.cells #[.int .i64 0] 3)).cell? ⟨w.heap.size, 0, none⟩ = some (.pointer (some ⟨g, 0, none⟩)) := (blk_cell hm3 0).trans rfl)
    | (go_at_call 27; (with_reducible refine (hRe _ (below_alloc hbw _)).mono ?_); clear hRe; rintro e w3 ⟨bo, rfl, hS, hb3⟩; refine Hid.out ?_))
  unfold Hid
  obtain ⟨hbo, Ao, co, ho1, ho2⟩ := hS
  rw [World.size_alloc] at hbo ho2
  have hs2 : w.heap.size + 1 ≤ w2.heap.size := by have := hb2.size; rw [World.size_alloc] at this; exact this
  have K0 : Lv w w3 g w.heap.size w2.heap.size bo L Ao co 0 := ⟨below_step (below_alloc hbw _) hb3, blk_below hm3 hb3, blk_below (blk_new w2 _) hb3, ho1, Kd.R_lower (Kd.R_mono (Kd.R_bound ho2) (fun k hk => by have := hk.2.1; omega)) (Nat.zero_le _), Nat.le_refl _, by omega, by omega, by omega⟩
  have hsz3 := hb3.size
  rw [World.size_alloc] at hsz3
  clear hb3 hm3 hcm hm2 hbw hb2 ho1 ho2
  generalize w.heap.size = bm at K0 hs2 ⊢
  generalize w2.heap.size = bn at K0 hs2 hbo hsz3 ⊢
  go_wp2_with fail
  refine (wpIn_wide (n := 5)).1 ?_
  refine' range_all (F := Fence.wide) (n := 5) rfl (by omega) (gf := 65) (lb := #[.pointer (some ⟨bo, 0, none⟩)]) rfl trivial (enters_of Try.func65 (by kernel_rfl) rfl)
    (encs := fun k => #[.int .i64 (rdOf 0 L (k : Int))]) (N := L.length)
    (fun k W => Lv w W g bm bn bo L Ao co ((flat ((L.take k).map (obAt st.f st.os))).length : Int))
    (w0 := w3) (reach_feeds Fence.wide (5 - 1) trivial rfl (by omega) bo L _ w3 Ao co (by omega) (fun k W K => ⟨K.o, Kd.R_mono K.r (fun _ _ => trivial)⟩)) (Below.refl _ _) (fun _ => rfl) ?own ?h0 _ ?assign ?body ?done
  case own =>
    intro k W W' row K hg hr
    exact K.kept hg hr K0.hb.size
  case h0 => exact K0
  case assign =>
    intro l k W K' hK
    gi_wp2
    exact hK
  case body =>
    intro l k W K hk
    have hcm : W.cell? ⟨bm, 0, none⟩ = some (.pointer (some ⟨g, 0, none⟩)) := (blk_cell K.m 0).trans rfl
    have hcn : W.cell? ⟨bn, 0, none⟩ = some (.int .i64 ((flat ((L.take k).map (obAt st.f st.os))).length : Int)) := (blk_cell K.n 0).trans rfl
    have hfn := blk_frozen K.n 0
    have hrd : rdOf 0 L (k : Int) = L[k] := by simp [rdOf, List.getD, hk]
    obtain ⟨i, hi, hai⟩ := mem_heads.1 (hOL.sub L[k] (List.getElem_mem hk))
    have hL' := (M.below K.hb).look i hi
    rw [← hai] at hL'
    have hob : obAt st.f st.os L[k] = st.os[i] := by rw [hai]; exact obAt_at _ _ i hi
    have htk : ((flat ((L.take (k + 1)).map (obAt st.f st.os))).length : Int) = ((flat ((L.take k).map (obAt st.f st.os))).length : Int) + (1 + (st.os[i].fs.length : Int)) := by
      rw [List.take_succ_eq_append_getElem hk, List.map_append, flat_append, List.length_append, List.map_cons, List.map_nil, flat_one, hob, row_length]
      omega
    have hle : (flat ((L.take (k + 1)).map (obAt st.f st.os))).length ≤ (flat (L.map (obAt st.f st.os))).length := by
      have e : L.map (obAt st.f st.os) = (L.take (k + 1)).map (obAt st.f st.os) ++ (L.drop (k + 1)).map (obAt st.f st.os) := by rw [← List.map_append, List.take_append_drop]
      rw [e, flat_append, List.length_append]
      omega
    rw [hrd]
    have hnk : (0 : Int) ≤ ((flat ((L.take k).map (obAt st.f st.os))).length : Int) := Int.natCast_nonneg _
    generalize ((flat ((L.take k).map (obAt st.f st.os))).length : Int) = nk at hcn htk K hnk
    obtain ⟨len, hlen⟩ : ∃ len : Nat, st.os[i].fs.length = len := ⟨_, rfl⟩
    rw [hlen] at hL' htk
    have hb1 : (-9223372036854775808 : Int) ≤ nk + (1 + (len : Int)) ∧ nk + (1 + (len : Int)) ≤ 9223372036854775807 := by omega
    have hb2 : (1 : Int) + (len : Int) ≤ 9223372036854775807 := by omega
    have hT := Aside0.mk htk
    clear htk hai hob hrd hle hlen
    gi_wp2_with fail
    refine ⟨trivial, (CallsIn.inRound l ((callsIn_wide (n := 2)).2 hL')).mono ?_⟩
    clear hL'
    rintro e w7 ⟨rfl, hd7⟩
    have K7 := K.same hd7.below
    have hcn7 : w7.cell? ⟨bn, 0, none⟩ = some (.int .i64 nk) := (blk_cell K7.n 0).trans rfl
    have hfn7 := blk_frozen K7.n 0
    have hKF7 : KeepsFrom w3.heap.size W w7 := by
      obtain ⟨m7, rfl⟩ := hd7
      exact ⟨Nat.le_refl _, fun k o _ h _ => h⟩
    clear K hcm hcn hfn hd7
    gi_wp2_with fail
    refine ⟨hKF7.trans ⟨by rw [World.size_setCell]; exact Nat.le_refl _, fun k o _ h hc => ?_⟩, ?_⟩
    · by_cases e : k = bn
      · subst e
        rw [K7.n] at h
        cases h
        cases hc
      · exact ((Fr.of_set (S := fun k => k = bn) w7 ⟨bn, 0, none⟩ _ rfl).same k (Array.getElem?_eq_some_iff.1 h).1 e).trans h
    · show Lv _ _ _ _ _ _ _ _ _ _
      rw [hT.out]
      exact K7.put _
  case done =>
    intro D W hD K hdf
    rw [List.take_length] at K
    have hcn : W.cell? ⟨bn, 0, none⟩ = some (.int .i64 ((flat (L.map (obAt st.f st.os))).length : Int)) := (blk_cell K.n 0).trans rfl
    go_wp2_with fail
    refine ⟨by simp, .inl ⟨_, _, rfl, run_takeDeferred hdf, ?_⟩⟩
    exact ⟨_, results_tmp2 rfl _ _ _, rfl, (K.kept (grownBy_putObj' W D (.deferred none)) (B' := w3.heap.size) (fun r e => by cases e; exact ⟨hD, _, hdf, rfl⟩) K0.hb.size).hb⟩
end Go.Proofs.Ytjccaojlldkmpaa.Mem
