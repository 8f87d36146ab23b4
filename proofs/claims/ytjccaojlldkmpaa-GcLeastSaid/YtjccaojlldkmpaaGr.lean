/- gc.Check, gc.Reach; what the iterators tell. -/
import Derived.Test.YtjccaojlldkmpaaGx
import Derived.Test.YtjccaojlldkmpaaRg
import Derived.RangeFuncBound
import Derived.RangeFuncCalls
import Derived.RangeFuncBox
import Derived.Shelf.Abstract
import Derived.Shelf.RegionOpen
import Derived.OwnWalkIn
import Derived.TacticsInMore
import Derived.LoopNIn
import Derived.LoopIn
namespace Go.Proofs.Ytjccaojlldkmpaa.Mem
open Go.RowKit Go.Proofs.YtjccaojlldkmpaaW.PrintWords Go.Proofs.YtjccaojlldkmpaaW.PrintLast Go.Proofs.YtjccaojlldkmpaaW.PrintMore
open Hf (rightB hdr headOf partsOf)
open Rg
set_option linter.unusedSimpArgs false
set_option linter.unusedVariables false
set_option maxRecDepth 100000
variable {S : Nat → Prop} {w W w' : World} {g n : Nat} {st : St}
theorem check_any (M : IsMem S w g st) (A : Option Addr) (c : Nat) (xs : List Int) (hC : Kd.C (Kd.int .u64) w A xs.length xs) (hx : ∀ x ∈ xs, 0 ≤ x ∧ x < 18446744073709551616) (hxl : xs.length ≤ 100000) :
    Calls Try.prog 26 #[.pointer (some ⟨g, 0, none⟩), .slice A xs.length c] w fun e W => e = .returned (.int .i64 (if (walkP st.f st.os xs).2 then 0 else 40)) ∧ Below w.heap.size w W := by
  have hW := walk_any M A c xs hC hx hxl
  cases hr : (walkP st.f st.os xs).2 with
  | true =>
    rw [hr] at hW
    go_enter Try.func26, Try.ntmps26
    go_wp2_with (first | (go_at_call 64; (with_reducible refine hW.mono ?_); clear hW; rintro e w1 ⟨B, d, rfl, hR, hb⟩))
    go_ret
    exact ⟨rfl, hb⟩
  | false =>
    rw [hr] at hW
    go_enter Try.func26, Try.ntmps26
    go_wp2_with (first | (go_at_call 64; (with_reducible refine hW.mono ?_); clear hW; rintro e w1 ⟨B, d, rfl, hR, hb⟩))
    go_ret
    exact ⟨rfl, hb⟩
theorem check_nil (v : Value) (w : World) : Calls Try.prog 26 #[.pointer none, v] w fun e W => e = .returned (.int .i64 2) ∧ W = w := by
  go_enter Try.func26, Try.ntmps26
  go_wp2_with fail
  go_ret
  exact ⟨rfl, rfl⟩
/-- An iterator over a row of addresses. -/
def SeqAt (W : World) (base bo : Nat) (l : List Int) : Prop := base ≤ bo ∧ ∃ A c, W.heap[bo]? = some (.cells #[.slice A l.length c] 23 (0, 0)) ∧ (Kd.int .i64).R 3 W base (fun _ => True) (.slice A l.length c) l
/-- What is reached; nothing where a word is not good. -/
def reachL (st : St) (xs : List Int) : List Int := if (walkP st.f st.os xs).2 then (walkP st.f st.os xs).1 else []
set_option maxHeartbeats 4000000 in
theorem reach_any (M : IsMem S w g st) (A : Option Addr) (c : Nat) (xs : List Int) (hC : Kd.C (Kd.int .u64) w A xs.length xs) (hx : ∀ x ∈ xs, 0 ≤ x ∧ x < 18446744073709551616) (hxl : xs.length ≤ 100000) :
    Calls Try.prog 27 #[.pointer (some ⟨g, 0, none⟩), .slice A xs.length c] w fun e W => ∃ bo, e = .returned (.func (.func 65) #[] #[.pointer (some ⟨bo, 0, none⟩)]) ∧ SeqAt W w.heap.size bo (reachL st xs) ∧ Below w.heap.size w W := by
  have hu23 := Try.underlying23
  unfold reachL
  have hW : ∀ W, Below w.heap.size w W → _ := fun W hb => walk_any (M.below hb) A c xs (Kd.C_below hC hb) hx hxl
  cases hr : (walkP st.f st.os xs).2 with
  | true =>
    rw [hr] at hW
    obtain ⟨l, hl⟩ : ∃ l, (walkP st.f st.os xs).1 = l := ⟨_, rfl⟩
    rw [hl] at hW ⊢
    go_enter Try.func27, Try.ntmps27
    go_wp2_with (first
      | ((with_reducible refine gate_dst (N := 5) rfl ?_); refine box_event ?hg (N := 5) ?hd (cs := #[.slice none 0 0]) (t := 23) ?hr ?_; (case hd => rfl); (case hg => rfl); (case hr => first | (go_simp; done) | (go_simp; rfl)); intro bo ho w1 hbox1 hb1; have HO := Aside0.mk ho; clear ho)
      | (go_at_call 64; (with_reducible refine (hW _ hb1).mono ?_); clear hW; rintro e w2 ⟨B, d, rfl, hR, hb2⟩
         have hbox2 := blk_below hbox1 hb2
         have hc2 : w2.cell? ⟨bo, 0, none⟩ = some (.slice none 0 0) := (blk_cell hbox2 0).trans rfl
         have hf2 := blk_frozen hbox2 0))
    go_ret
    have hne : ∀ k, (Value.slice B l.length d).ownBlock = some k → ¬ k = bo := fun k hk e => by
      obtain ⟨cs, h⟩ := Kd.R_typed hR k hk
      rw [e, hbox2] at h
      cases h
    have hbo : w.heap.size ≤ bo := by rw [HO.out]; exact Nat.le_refl _
    exact ⟨bo, rfl, ⟨hbo, B, d, blk_put hbox2 0 _ rfl, Kd.R_lower (R_far_lt hR (Fr.of_set (S := fun k => k = bo) w2 ⟨bo, 0, none⟩ _ rfl) hne) hb1.size⟩, below_set (below_step hb1 hb2) hbo⟩
  | false =>
    rw [hr] at hW
    go_enter Try.func27, Try.ntmps27
    go_wp2_with (first
      | ((with_reducible refine gate_dst (N := 5) rfl ?_); refine box_event ?hg (N := 5) ?hd (cs := #[.slice none 0 0]) (t := 23) ?hr ?_; (case hd => rfl); (case hg => rfl); (case hr => first | (go_simp; done) | (go_simp; rfl)); intro bo ho w1 hbox1 hb1; have HO := Aside0.mk ho; clear ho)
      | (go_at_call 64; (with_reducible refine (hW _ hb1).mono ?_); clear hW; rintro e w2 ⟨B, d, rfl, hR, hb2⟩
         have hbox2 := blk_below hbox1 hb2))
    go_ret
    have hbo : w.heap.size ≤ bo := by rw [HO.out]; exact Nat.le_refl _
    exact ⟨bo, rfl, ⟨hbo, none, 0, hbox2, Kd.R_nil _ _ _ _ _⟩, below_step hb1 hb2⟩
theorem reach_nil (v : Value) (w : World) : Calls Try.prog 27 #[.pointer none, v] w fun e W => ∃ bo, e = .returned (.func (.func 65) #[] #[.pointer (some ⟨bo, 0, none⟩)]) ∧ SeqAt W w.heap.size bo [] ∧ Below w.heap.size w W := by
  have hu23 := Try.underlying23
  go_enter Try.func27, Try.ntmps27
  go_wp2_with (first
    | ((with_reducible refine gate_dst (N := 5) rfl ?_); refine box_event ?hg (N := 5) ?hd (cs := #[.slice none 0 0]) (t := 23) ?hr ?_; (case hd => rfl); (case hg => rfl); (case hr => first | (go_simp; done) | (go_simp; rfl)); intro bo ho w1 hbox1 hb1; have HO := Aside0.mk ho; clear ho))
  go_ret
  have hbo : w.heap.size ≤ bo := by rw [HO.out]; exact Nat.le_refl _
  exact ⟨bo, rfl, ⟨hbo, none, 0, hbox1, Kd.R_nil _ _ _ _ _⟩, hb1⟩
theorem seq_there (bo : Nat) (W : World) : (binOp .eql 48 (.func (.func 65) #[] #[.pointer (some ⟨bo, 0, none⟩)]) .nilFunc).run Try.prog W = .ok (.bool false) W := by
  first
  | rfl
  | kernel_rfl
theorem objs_there (bo : Nat) (W : World) : (binOp .eql 48 (.func (.func 66) #[] #[.pointer (some ⟨bo, 0, none⟩)]) .nilFunc).run Try.prog W = .ok (.bool false) W := by
  first
  | rfl
  | kernel_rfl
theorem objects_any (m : Option Addr) (w : World) : Calls Try.prog 31 #[.pointer m] w fun e w' => e = .returned (.func (.func 66) #[] #[.pointer (some ⟨w.heap.size, 0, none⟩)]) ∧ w' = w.alloc (.cells #[.pointer m] 26) := by
  go_enter Try.func31, Try.ntmps31
  go_wp2_with fail
  go_ret
  exact ⟨rfl, rfl⟩
attribute [local go_sem] Oper.semAt_some
set_option maxHeartbeats 4000000 in
/-- gc.Reach's iterator tells its row, one by one. -/
theorem reach_feeds (F : Fence) (m : Nat) (h65 : F.fn 65) (hro : F.round = none) (hm : 1 ≤ m) (bo : Nat) (l : List Int) (I : Nat → World → Prop) (w0 : World) (A : Option Addr) (c : Nat) (hl : l.length ≤ 100000)
    (hI : ∀ k W, I k W → W.heap[bo]? = some (.cells #[.slice A l.length c] 23 (0, 0)) ∧ (Kd.int .i64).R 3 W 0 (fun _ => True) (.slice A l.length c) l) :
    Feeds F m Try.prog 65 #[.pointer (some ⟨bo, 0, none⟩)] (fun k => #[.int .i64 (rdOf 0 l (k : Int))]) l.length I w0 := by
  intro lp J W hW hJI hY h0
  have hc0 : W.cell? ⟨bo, 0, none⟩ = some (.slice A l.length c) := (blk_cell (hI 0 W (hJI 0 W h0)).1 0).trans rfl
  refine callsIn_of_wp Try.func65 rfl h65 ?_ hro
  simp only [Try.ntmps65, List.size_toArray, List.length_cons, List.length_nil, Nat.reduceAdd, Nat.reduceSub, Array.replicate_succ, Array.replicate_zero, List.push_toArray, List.append_toArray, List.nil_append, List.cons_append]
  gi_wp2
  gi_loopw [7] (fun i wr => ∃ k : Nat, k ≤ l.length ∧ i = .int .i64 k ∧ J k wr) (fun i _ => l.length - (intOf i).toNat)
  case atStart => exact ⟨0, Nat.zero_le _, rfl, h0⟩
  case round =>
    obtain ⟨k, hk, rfl, hJ⟩ := hrel
    by_cases hlt : k < l.length
    · obtain ⟨hbx, hR⟩ := hI k wr (hJI k wr hJ)
      obtain ⟨gr, cr, hv, -, -⟩ := Kd.R_form hR (by omega)
      injection hv with e1 e2 e3
      subst e1 e3
      have hcl := (Kd.R_celln (0 : Int) hR (k : Int) (by omega) (by omega)).1
      rw [Int.toNat_natCast] at hcl
      have t1 : decide ((k : Int) < (l.length : Int)) = true := decide_eq_true (by omega)
      have t0 : decide (0 ≤ (k : Int)) = true := decide_eq_true (by omega)
      obtain ⟨fn, tmps, assign, body, hy, hRd⟩ := hY k wr hJ hlt
      clear hc0 hbx hR
      gi_wp2
      refine hRd.mono ?_
      rintro e W3 ⟨rfl, hJ3⟩
      gi_wp2
      go_roundw
      case rel => exact ⟨k + 1, by omega, by simp, hJ3⟩
      case measure => simp [intOf]; omega
    · obtain rfl : k = l.length := by omega
      gi_wp2
      go_end0
      exact ⟨⟨_, rfl⟩, hJ⟩
set_option maxHeartbeats 4000000 in
/-- A memory's iterator tells its objects' addresses, as they stand at each round. -/
theorem objs_feeds (F : Fence) (m : Nat) (h66 : F.fn 66) (hro : F.round = none) (hm : 1 ≤ m) (B N : Nat) (st : Nat → St) (I : Nat → World → Prop) (w0 : World)
    (hI : ∀ k W, k ≤ N → I k W → W.heap[B]? = some (.cells #[.pointer (some ⟨g, 0, none⟩)] 26 (0, 0)) ∧ ∃ S D, IsMem S W g { st k with mvd := D }) (hlt : ∀ k, k < N → k < (st k).os.length) (hN : (st N).os.length = N) :
    Feeds F m Try.prog 66 #[.pointer (some ⟨B, 0, none⟩)] (fun k => #[.int .i64 ((st k).f + (pos (st k).os k : Int))]) N I w0 := by
  intro lp J W hW hJI hY h0
  refine callsIn_of_wp Try.func66 rfl h66 ?_ hro
  simp only [Try.ntmps66, List.size_toArray, List.length_cons, List.length_nil, Nat.reduceAdd, Nat.reduceSub, Array.replicate_succ, Array.replicate_zero, List.push_toArray, List.append_toArray, List.nil_append, List.cons_append]
  gi_wp2
  gi_loopw [3] (fun i wr => ∃ k : Nat, k ≤ N ∧ i = .int .i64 k ∧ J k wr) (fun i _ => N - (intOf i).toNat)
  case atStart => exact ⟨0, Nat.zero_le _, rfl, h0⟩
  case round =>
    obtain ⟨k, hk, rfl, hJ⟩ := hrel
    obtain ⟨hbx, S, D, M⟩ := hI k wr hk (hJI k wr hJ)
    have hlm : (st k).os.length ≤ 65536 := M.os_len
    obtain ⟨vw, vh, ow, oh, mb, n, L⟩ := M
    obtain ⟨A, c, rfl⟩ := Kd.R_slice L.H.hs
    have hlh := heads_length (st k).f (st k).os
    have hR : Hs wr (.slice A (heads (st k).f (st k).os).length c) (heads (st k).f (st k).os) := L.H.hs
    rw [hlh] at hR
    have hcb : wr.cell? ⟨B, 0, none⟩ = some (.pointer (some ⟨g, 0, none⟩)) := (blk_cell hbx 0).trans rfl
    have hcg : wr.cell? ⟨g, 4, none⟩ = some (.slice A (heads (st k).f (st k).os).length c) := (blk_cell L.H.blk 4).trans rfl
    rw [hlh] at hcg
    clear hbx L hlh
    by_cases hlt' : k < N
    · have hk2 := hlt k hlt'
      obtain ⟨gr, cr, hv, -, -⟩ := Kd.R_form hR (by rw [heads_length]; omega)
      injection hv with e1 e2 e3
      subst e1 e3
      have hcl := (Kd.R_celln (0 : Int) hR (k : Int) (by omega) (by omega)).1
      rw [Int.toNat_natCast, heads_getD _ _ _ hk2] at hcl
      obtain ⟨a, hA⟩ : ∃ a, (st k).f + (pos (st k).os k : Int) = a := ⟨_, rfl⟩
      have hY' := hY k wr hJ hlt'
      rw [hA] at hY' hcl
      clear hA hR e2
      generalize (st k).os.length = len at hcg hk2 hlm ⊢
      have t1 : decide ((k : Int) < (len : Int)) = true := decide_eq_true (by omega)
      have t0 : decide (0 ≤ (k : Int)) = true := decide_eq_true (by omega)
      obtain ⟨fn, tmps, assign, body, hy, hRd⟩ := hY'
      gi_wp2
      refine hRd.mono ?_
      rintro e W3 ⟨rfl, hJ3⟩
      gi_wp2
      go_roundw
      case rel => exact ⟨k + 1, by omega, by simp, hJ3⟩
      case measure => simp [intOf]; omega
    · obtain rfl : k = N := by omega
      rw [hN] at hcg
      have t1 : decide ((k : Int) < (k : Int)) = false := decide_eq_false (by omega)
      clear hR
      gi_wp2
      go_end0
      exact ⟨⟨_, rfl⟩, hJ⟩
end Go.Proofs.Ytjccaojlldkmpaa.Mem
