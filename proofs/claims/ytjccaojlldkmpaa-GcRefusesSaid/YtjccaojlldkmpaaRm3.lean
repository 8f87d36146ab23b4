/- The document's memory: Alloc. -/
import Derived.Test.YtjccaojlldkmpaaRm2
import Derived.Deep.RegionLaw
namespace Go.Proofs.Ytjccaojlldkmpaa.Rm
open Go.RowKit Go.Proofs.YtjccaojlldkmpaaW.PrintWords Go.Proofs.YtjccaojlldkmpaaW.PrintLast Go.Proofs.YtjccaojlldkmpaaW.PrintMore
open Mem (Fr)
open Hf (rightB right_parts)
open Pa
set_option linter.unusedSimpArgs false
set_option linter.unusedVariables false
set_option maxRecDepth 100000
variable {S : Nat → Prop} {w w' W : World} {g c : Nat} {vn vo v : Value} {rs : RS} {l : List P5}
theorem rright_f (n : Nat) (k s t : Int) : kindlingref02_Right.f (n + 2) k s t = some (rightB k s t) := by
  have hbad : kindlingref02_Right.j0 (n + 2) k s t true = some false := by simp only [kindlingref02_Right.j0, if_true]
  have no : ¬ (1 ≤ k ∧ k ≤ 5 ∧ 0 ≤ s ∧ s ≤ 16384 ∧ 0 ≤ t ∧ t ≤ s) → rightB k s t = false := fun h => by
    by_cases e : rightB k s t = true
    · exact absurd (right_parts e) h
    · exact Bool.eq_false_iff.2 e
  unfold kindlingref02_Right.f
  by_cases h1 : k < 1
  · rw [if_pos h1, hbad, no (by omega)]
  rw [if_neg h1]
  by_cases h2 : k > 5
  · rw [if_pos h2, hbad, no (by omega)]
  rw [if_neg h2]
  by_cases h3 : s < 0
  · rw [if_pos h3, hbad, no (by omega)]
  rw [if_neg h3]
  by_cases h4 : s > 16384
  · rw [if_pos h4, hbad, no (by omega)]
  rw [if_neg h4]
  by_cases h5 : t < 0
  · rw [if_pos h5, hbad, no (by omega)]
  rw [if_neg h5]
  by_cases h6 : t > s
  · rw [decide_eq_true h6, hbad, no (by omega)]
  rw [decide_eq_false h6]
  unfold rightB
  rw [if_neg (show ¬ (s < 0 ∨ s > 16384 ∨ t < 0 ∨ t > s) by omega)]
  simp only [kindlingref02_Right.j0]
  rw [if_neg (by decide)]
  by_cases k5 : k = 5
  · rw [if_pos k5, if_neg (by omega), if_neg (by omega), if_neg (by omega), k5]; rfl
  rw [if_neg k5]
  by_cases s0 : s = 0
  · rw [if_pos s0]
    simp only [kindlingref02_Right.j1, if_true]
    subst s0
    by_cases k1 : k = 1 ∨ k = 3
    · rw [if_pos k1]; rfl
    · rw [if_neg k1]
      by_cases k2 : k = 2
      · rw [if_pos k2]; rfl
      · rw [if_neg k2, if_pos (by omega)]; rfl
  rw [if_neg s0]
  have hs : decide (0 < s) = true := decide_eq_true (by omega)
  by_cases k2 : k = 2
  · rw [if_pos k2, if_neg (show ¬ (k = 1 ∨ k = 3) by omega), if_pos k2]
    simp only [kindlingref02_Right.j1]
    by_cases s1 : s = 1
    · rw [if_neg (by simp [s1]), if_neg (by omega), s1]; rfl
    · rw [if_pos (by simpa using s1), beq_eq_false_iff_ne.2 s1, Bool.false_and]
  rw [if_neg k2]
  simp only [kindlingref02_Right.j1]
  rw [if_neg (by decide)]
  by_cases k4 : k = 4
  · rw [if_pos k4, if_neg (show ¬ (k = 1 ∨ k = 3) by omega), if_neg k2, if_pos k4, hs, Bool.true_and]
  · rw [if_neg k4, if_pos (show k = 1 ∨ k = 3 by omega), hs, Bool.true_and]
theorem right76 (k s t : Int) (w : World) : Calls Try.prog 76 #[.int .i64 k, .int .i64 s, .int .i64 t] w fun e w' => e = .returned (.bool (rightB k s t)) ∧ Drawn0 w w' :=
  Pa.kindlingref02_Right.calls 2 k s t _ w (rright_f 0 k s t)
/-- The words of a new object. -/
def ini (n q : Nat) : List Int := List.replicate q 1 ++ List.replicate (n - q) 0
theorem ini_len (n q : Nat) (h : q ≤ n) : (ini n q).length = n := by simp [ini]; omega
theorem ini_step (n q k : Nat) (h : q ≤ n) (hk : k < n) : (ini n q).take (k + 1) = (ini n q).take k ++ [if k < q then 1 else 0] := by
  have hl : k < (List.replicate q (1 : Int) ++ List.replicate (n - q) 0).length := by simp; omega
  unfold ini
  rw [List.take_succ_eq_append_getElem hl]
  congr 2
  by_cases hq : k < q
  · rw [if_pos hq, List.getElem_append_left (by simpa using hq), List.getElem_replicate]
  · rw [if_neg hq, List.getElem_append_right (by simpa using hq), List.getElem_replicate]
def newP (rs : RS) (k : Int) (n q : Nat) (v : Value) : P5 := ⟨⟨next rs, k, q, ini n q, 0⟩, v⟩
/-- One object more. -/
theorem Lies.grow (L : Lies S w g vn vo rs) {w6 w7 : World} (hb : Below w.heap.size w w6) {vn' : Value} {p : P5} (hR : kP.R 87 w7 0 (fun _ => True) vn' (rs.now ++ [p])) (hg : w6.grownBy w7 vn.ownBlock) (hat : vn'.ownBlock = vn.ownBlock ∨ ∃ b, vn'.ownBlock = some b ∧ w6.heap.size ≤ b)
    (hp : ∀ k, p.v.ownBlock = some k → w.heap.size ≤ k) : Lies (fun k => S k ∨ w.heap.size ≤ k) (w7.setCell ⟨g, 2, none⟩ vn') g vn' vo { rs with now := rs.now ++ [p] } ∧ Fr S w (w7.setCell ⟨g, 2, none⟩ vn') := by
  have L6 := L.keep (T := fun _ => False) (Fr.of_below hb) (fun _ _ h => h)
  have hgv : some g ≠ vn.ownBlock := Kd.R_ne (show kP.R 87 w6 0 (fun _ => True) vn rs.now from L6.now) L6.blk (by decide)
  have hb7 := blk_grown L6.blk hg hgv
  have fr : Fr (fun k => k = g ∨ vn.ownBlock = some k) w6 (w7.setCell ⟨g, 2, none⟩ vn') := (Fr.of_grown hg (fun k hk => .inr hk)).trans (Fr.of_set w7 ⟨g, 2, none⟩ _ (.inl rfl))
  refine ⟨⟨blk_put hb7 2 _ rfl, ?_, ?_, ?_, ?_, .inl L.sg, ?_, fun k hk => .inl (L.so k hk), ?_⟩, (Fr.of_below hb).trans (fr.mono (fun k _ h => ?_))⟩
  · exact Kd.R_set hR hb7 (by intro q hq; simp [kP] at hq; omega) 2 _
  · refine L6.old.keep fr (fun k hk h => ?_) (fun q hq k hk h => ?_)
    · rcases h with rfl | h
      · obtain ⟨c1, h1⟩ := L6.old.typed _ hk
        rw [L6.blk] at h1
        cases h1
      · exact L.ap k h hk
    · obtain ⟨c1, h1⟩ := L6.old.typed_row q hq k hk
      rcases h with rfl | h
      · rw [L6.blk] at h1
        cases h1
      · obtain ⟨c2, h2⟩ := L6.now.typed k h
        rw [h1] at h2
        cases h2
  · intro k hk e
    rcases hat with h | ⟨b, h, hbb⟩
    · exact L.ap k (h ▸ hk) e
    · rw [h] at hk
      cases hk
      have := L6.old.lt _ e
      omega
  · have hpd := L.pd
    unfold Apart at hpd ⊢
    show List.Pairwise _ ((rs.now ++ [p]) ++ rs.old)
    rw [List.append_assoc, List.singleton_append]
    rw [List.pairwise_append] at hpd ⊢
    obtain ⟨q1, q2, q3⟩ := hpd
    have hlo : ∀ q ∈ rs.now, ∀ k, q.v.ownBlock = some k → k < w.heap.size := L.now.lt_row
    have hoo : ∀ q ∈ rs.old, ∀ k, q.v.ownBlock = some k → k < w.heap.size := L.old.lt_row
    refine ⟨q1, List.pairwise_cons.2 ⟨fun b hb k hk e => ?_, q2⟩, fun a ha b hb k hk e => ?_⟩
    · have := hp k hk
      have := hoo b hb k e
      omega
    · rcases List.mem_cons.1 hb with rfl | hb
      · have := hp k e
        have := hlo a ha k hk
        omega
      · exact q3 a ha b hb k hk e
  · intro k hk
    rcases hat with h | ⟨b, h, hbb⟩
    · exact .inl (L.sn k (h ▸ hk))
    · rw [h] at hk
      cases hk
      exact .inr (Nat.le_trans hb.size hbb)
  · intro q hq k hk
    have hq2 : q ∈ (rs.now ++ [p]) ++ rs.old := hq
    rw [List.append_assoc, List.mem_append, List.singleton_append, List.mem_cons] at hq2
    rcases hq2 with h | rfl | h
    · exact .inl (L.sw q (List.mem_append_left _ h) k hk)
    · exact .inr (hp k hk)
    · exact .inl (L.sw q (List.mem_append_right _ h) k hk)
  · rcases h with rfl | h
    · exact L.sg
    · exact L.sn k h
theorem info87 : (Try.prog.info? 87).map (fun i => (i.zero, i.size, i.bytes)) = some (some (.agg #[.int .i64 0, .int .i64 0, .int .i64 0, .slice none 0 0, .int .i64 0]), 5, 56) := by kernel_rfl
set_option maxHeartbeats 4000000 in
theorem alloc_any (L : Lies S w g vn vo rs) (F : Fit rs) (k : Int) (n q : Nat) (hr : rightB k n q = true) (hfree : (n : Int) < free rs) (hlen : rs.now.length ≤ 65536) :
    Calls Try.prog 47 #[.pointer (some ⟨g, 0, none⟩), .int .i64 k, .int .i64 n, .int .i64 q] w fun e w' => e = .returned (.tuple #[.int .i64 (next rs), .int .i64 0]) ∧
      ∃ vn' v, Lies (fun k => S k ∨ w.heap.size ≤ k) w' g vn' vo { rs with now := rs.now ++ [newP rs k n q v] } ∧ Fr S w w' := by
  have hu87 := Try.underlying87
  have hu28 := Try.underlying28
  have hu32 := Try.underlying32
  obtain ⟨p1, p2, p3, p4, p5, p6⟩ := right_parts hr
  have hR := fun W => right76 k n q W
  rw [hr] at hR
  have hN := fun W (hd : Drawn0 w W) => next_any (L.drawn hd) F
  have hF := fun W (hd : Drawn0 w W) => free_any (L.drawn hd) F
  have hs := F.s
  have hh := F.hs
  have hu := F.u
  have hfr : free rs ≤ 65536 := by unfold free; omega
  obtain ⟨fr, hfre⟩ : ∃ fr, free rs = fr := ⟨_, rfl⟩
  obtain ⟨nx, hnx⟩ : ∃ nx, next rs = nx := ⟨_, rfl⟩
  have hnxb : 1 ≤ nx ∧ nx ≤ 200000 := by rw [← hnx]; unfold next; omega
  rw [hfre] at hF hfree hfr
  rw [hnx] at hN
  have t1 : decide ((n : Int) ≥ fr) = false := decide_eq_false (by omega)
  have hd : Drawn0 w w := ⟨0, rfl⟩
  have hfre' := Aside0.mk hfre
  have hnx' := Aside0.mk hnx
  clear hfre hnx
  go_enter Try.func47, Try.ntmps47
  go_wp2_with (first
    | (go_at_call 76; (with_reducible refine (hR _).mono ?_); rintro e w5 ⟨rfl, hd5⟩; replace hd := Mem.drawn_trans hd hd5)
    | (go_at_call 62; (with_reducible refine (hF _ hd).mono ?_); rintro e w5 ⟨rfl, hd5⟩; replace hd := Mem.drawn_trans hd hd5)
    | (go_at_call 61; (with_reducible refine (hN _ hd).mono ?_); rintro e w5 ⟨rfl, hd5⟩; replace hd := Mem.drawn_trans hd hd5))
  have hb0 : (w5.alloc (.cells #[.int .i64 nx, .int .i64 k, .int .i64 q, .slice none 0 0, .int .i64 0] 87)).heap[w5.heap.size]? = some (.cells #[.int .i64 nx, .int .i64 k, .int .i64 q, .slice none 0 0, .int .i64 0] 87 (0, 0)) := blk_new _ _
  have hB0 : Below w5.heap.size w5 (w5.alloc (.cells #[.int .i64 nx, .int .i64 k, .int .i64 q, .slice none 0 0, .int .i64 0] 87)) := below_alloc (Below.refl _ _) _
  have hd05 : Drawn0 w w5 := hd
  generalize w5.alloc (.cells #[.int .i64 nx, .int .i64 k, .int .i64 q, .slice none 0 0, .int .i64 0] 87) = w6 at hb0 hB0 ⊢
  clear hR hF hN t1 hd5 hd hu32
  go_loopw [11] (fun i wr => ∃ j : Nat, j ≤ n ∧ i = .int .i64 (j : Int) ∧ ∃ A3 c3, wr.heap[w5.heap.size]? = some (.cells #[.int .i64 nx, .int .i64 k, .int .i64 q, .slice A3 j c3, .int .i64 0] 87 (0, 0)) ∧ (Kd.int .u64).R 56 wr w5.heap.size (fun _ => True) (.slice A3 j c3) ((ini n q).take j) ∧ Below w5.heap.size w5 wr) (fun i _ => n - (intOf i).toNat)
  case atStart => exact ⟨0, Nat.zero_le _, rfl, none, 0, hb0, by rw [List.take_zero]; exact Kd.R_nil _ _ _ _ _, hB0⟩
  case round =>
    clear hb0 hB0
    obtain ⟨j, hj, rfl, A3, c3, hbr, hR3, hBr⟩ := hrel
    by_cases hlt : j < n
    · have t1 : decide ((j : Int) < (n : Int)) = true := decide_eq_true (by omega)
      have e3 : wr.cell? ⟨w5.heap.size, 3, none⟩ = some (.slice A3 j c3) := (blk_cell hbr 3).trans rfl
      have hst := ini_step n q j (by omega) hlt
      have hlen : ((ini n q).take j).length = j := by rw [List.length_take, ini_len n q (by omega)]; omega
      have hst' := Aside0.mk hst
      have hlen' := Aside0.mk hlen
      clear hst hlen
      by_cases hq : j < q
      · have t2 : decide ((j : Int) < (q : Int)) = true := decide_eq_true (by omega)
        go_wp2_with (first
          | ((with_reducible refine gate_builtin (b := .append) (xs := #[.tmp 35, .tmp 36]) rfl ?_); at_builtin; refine Kd.R_append (Kd.int .u64) (w0 := wr) w5.heap.size rfl (.tmp 35) (.tmp 36) 32 56 (.int .u64 0) 8 rfl Try.underlying32 info56 rfl (by decide) (by omega) (.slice A3 j c3) ((ini n q).take j) 1 [.int .u64 1] (fun _ => True) (fun _ => False) rfl rfl rfl (fun _ hk => hk.elim) (fun _ _ => trivial) hR3 (Below.refl _ _) hBr.size (by rw [hlen'.out]; omega) ?_; intro v7 w7 ho7 hb7' hg7 hat7
             have hb7 := blk_grown hbr hg7 (Kd.R_ne hR3 hbr (by decide))
             have hB7 := hBr.grown hg7 hBr.size (fun k hk => Kd.R_base hR3 k hk)
             obtain ⟨A7, c7, rfl⟩ := Kd.R_slice ho7
             have hl7 : ((ini n q).take j ++ [(1 : Int)]).length = j + 1 := by rw [List.length_append, hlen'.out]; rfl
             rw [hl7] at ho7 ⊢
             have e7 : w7.cell? ⟨w5.heap.size, 3, none⟩ = some (.slice A3 j c3) := (blk_cell hb7 3).trans rfl
             have z7 := blk_frozen hb7 3))
        go_roundw
        case rel =>
          refine ⟨j + 1, by omega, by simp, A7, c7, blk_put hb7 3 _ rfl, ?_, hB7.setCell (Nat.le_refl _) _⟩
          rw [hst'.out, if_pos hq]
          exact Kd.R_set ho7 hb7 (by intro p hp; simp [Kd.int, Kd.scalar] at hp; omega) 3 _
        case measure => simp [intOf]; omega
      · have t2 : decide ((j : Int) < (q : Int)) = false := decide_eq_false (by omega)
        go_wp2_with (first
          | ((with_reducible refine gate_builtin (b := .append) (xs := #[.tmp 40, .tmp 41]) rfl ?_); at_builtin; refine Kd.R_append (Kd.int .u64) (w0 := wr) w5.heap.size rfl (.tmp 40) (.tmp 41) 32 56 (.int .u64 0) 8 rfl Try.underlying32 info56 rfl (by decide) (by omega) (.slice A3 j c3) ((ini n q).take j) 0 [.int .u64 0] (fun _ => True) (fun _ => False) rfl rfl rfl (fun _ hk => hk.elim) (fun _ _ => trivial) hR3 (Below.refl _ _) hBr.size (by rw [hlen'.out]; omega) ?_; intro v7 w7 ho7 hb7' hg7 hat7
             have hb7 := blk_grown hbr hg7 (Kd.R_ne hR3 hbr (by decide))
             have hB7 := hBr.grown hg7 hBr.size (fun k hk => Kd.R_base hR3 k hk)
             obtain ⟨A7, c7, rfl⟩ := Kd.R_slice ho7
             have hl7 : ((ini n q).take j ++ [(0 : Int)]).length = j + 1 := by rw [List.length_append, hlen'.out]; rfl
             rw [hl7] at ho7 ⊢
             have e7 : w7.cell? ⟨w5.heap.size, 3, none⟩ = some (.slice A3 j c3) := (blk_cell hb7 3).trans rfl
             have z7 := blk_frozen hb7 3))
        go_roundw
        case rel =>
          refine ⟨j + 1, by omega, by simp, A7, c7, blk_put hb7 3 _ rfl, ?_, hB7.setCell (Nat.le_refl _) _⟩
          rw [hst'.out, if_neg hq]
          exact Kd.R_set ho7 hb7 (by intro p hp; simp [Kd.int, Kd.scalar] at hp; omega) 3 _
        case measure => simp [intOf]; omega
    · obtain rfl : j = n := by omega
      have t1 : decide (((j : Nat) : Int) < (j : Int)) = false := decide_eq_false (by omega)
      go_wp2_with fail
      have L1 := L.drawn hd05
      have L2 := L1.keep (T := fun _ => False) (Fr.of_below hBr) (fun _ _ h => h)
      have L3 := L2.drawn (d0 wr 1)
      have hb3 : wr.drew.heap[w5.heap.size]? = some (.cells #[.int .i64 nx, .int .i64 k, .int .i64 q, .slice A3 j c3, .int .i64 0] 87 (0, 0)) := hbr
      have hR3' := Kd.R_drew hR3
      have e0 : wr.drew.cell? ⟨w5.heap.size, 0, none⟩ = some (.int .i64 nx) := (blk_cell hb3 0).trans rfl
      have e1 : wr.drew.cell? ⟨w5.heap.size, 1, none⟩ = some (.int .i64 k) := (blk_cell hb3 1).trans rfl
      have e2 : wr.drew.cell? ⟨w5.heap.size, 2, none⟩ = some (.int .i64 q) := (blk_cell hb3 2).trans rfl
      have e3 : wr.drew.cell? ⟨w5.heap.size, 3, none⟩ = some (.slice A3 j c3) := (blk_cell hb3 3).trans rfl
      have e4 : wr.drew.cell? ⟨w5.heap.size, 4, none⟩ = some (.int .i64 0) := (blk_cell hb3 4).trans rfl
      have hblk := L3.blk
      have q2 : wr.drew.cell? ⟨g, 2, none⟩ = some vn := (blk_cell hblk 2).trans rfl
      have z2 := blk_frozen hblk 2
      have q2a : (wr.alloc (.cells #[.int .i64 nx, .int .i64 k, .int .i64 q, .slice A3 j c3, .int .i64 0] 87)).cell? ⟨g, 2, none⟩ = some vn := (blk_cell (blk_alloc L2.blk _) 2).trans rfl
      have hnow : kP.R 87 wr.drew 0 (fun _ => True) vn rs.now := L3.now
      have hs05 : w.heap.size ≤ w5.heap.size := hd05.below.size
      have hMP : kP.M wr.drew 0 (fun i => some i ≠ vn.ownBlock) (⟨⟨nx, k, q, (ini j q).take j, 0⟩, .slice A3 j c3⟩ : P5) [.int .i64 nx, .int .i64 k, .int .i64 q, .slice A3 j c3, .int .i64 0] :=
        ⟨rfl, Kd.R_lower (Kd.R_mono (Kd.R_bound hR3') (fun i hi e => by have := L.now.lt i e.symm; have := hi.2.1; omega)) (Nat.zero_le _)⟩
      have HNX := hnx'
      clear hfre' hnx' hbr L1
      go_region_law (first
        | (refine Kd.R_append_step (okp := fun i => some i ≠ vn.ownBlock) (ok := fun _ => True) (w0 := wr.drew) (W := wr.drew) (v := vn) (xs := rs.now) (p := (⟨⟨nx, k, q, (ini j q).take j, 0⟩, .slice A3 j c3⟩ : P5)) (cs := [.int .i64 nx, .int .i64 k, .int .i64 q, .slice A3 j c3, .int .i64 0]) kP 0 ?_ (.tmp 48) (.tmp 50) 28 87 (.agg #[.int .i64 0, .int .i64 0, .int .i64 0, .slice none 0 0, .int .i64 0]) 56 ?_ Try.underlying28 info87 ?_ ?_ ?_ ?_ ?_ ?_ ?_ ?_ ?_ ?_ ?_ ?_ ?_
           · rfl
           · rfl
           · rfl
           · exact (by decide)
           · omega
           · rfl
           · rfl
           · exact hMP
           · exact (fun _ hk => ⟨trivial, hk⟩)
           · exact (fun _ _ => trivial)
           · exact hnow
           · exact Below.refl 0 _
           · exact (Nat.zero_le _)
           · omega
           intro v7 w7 ho7 hb7' hg7 hat7
           obtain ⟨A7, c7, rfl⟩ := Kd.R_slice ho7
           obtain ⟨n7, hn7⟩ : ∃ n7 : Nat, (rs.now ++ [(⟨⟨nx, k, q, (ini j q).take j, 0⟩, .slice A3 j c3⟩ : P5)]).length = n7 := ⟨_, rfl⟩
           rw [hn7] at ho7 hat7 ⊢
           have hb7 := blk_grown hblk hg7 (Kd.R_ne hnow hblk (by decide))
           have hn7' := Aside0.mk hn7
           clear hn7
           have q7 : w7.cell? ⟨g, 2, none⟩ = some vn := (blk_cell hb7 2).trans rfl
           have z7 := blk_frozen hb7 2))
      all_goals
        have hb7b := blk_grown hb3 hg7 (fun e => by have := L.now.lt _ e.symm; omega)
        have hb8b := blk_far hb7b (p := ⟨g, 2, none⟩) (show w5.heap.size ≠ g from by have := blk_lt L.blk; omega) (.slice A7 n7 c7)
        have c80 := (blk_cell hb8b 0).trans rfl
        go_wp2_with fail
        go_ret2
        have hti : (ini j q).take j = ini j q := List.take_of_length_le (by rw [ini_len j q (by omega)]; exact Nat.le_refl _)
        rw [hti, ← HNX.out] at ho7
        rw [HNX.out]
        have hB6 : Below w.heap.size w wr.drew := (hd05.below.trans (hBr.mono hs05)).trans ((d0 wr 1).below.mono (by have := hBr.size; omega))
        obtain ⟨hl, hfr8⟩ := L.grow hB6 ho7 hg7 hat7 (fun k hk => by have := Kd.R_base hR3 k hk; omega)
        exact ⟨rfl, _, _, hl, hfr8⟩
end Go.Proofs.Ytjccaojlldkmpaa.Rm
