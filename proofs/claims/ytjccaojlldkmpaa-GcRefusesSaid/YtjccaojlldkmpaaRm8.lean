/- The document's Live; whether a memory holds what the document's holds. -/
import Derived.Test.YtjccaojlldkmpaaRm7
import Derived.Test.YtjccaojlldkmpaaAl
namespace Go.Proofs.Ytjccaojlldkmpaa.Rm
open Go.RowKit Go.Proofs.YtjccaojlldkmpaaW.PrintWords Go.Proofs.YtjccaojlldkmpaaW.PrintLast Go.Proofs.YtjccaojlldkmpaaW.PrintMore
open Mem
open Hf (rightB right_parts)
open Pa (S71 k71 z71 rd_T71 at_T71 S87 k87)
set_option linter.unusedSimpArgs false
set_option linter.unusedVariables false
set_option maxRecDepth 100000
variable {S Sm : Nat → Prop} {w w' W : World} {g gd c : Nat} {vn vo v : Value} {rs : RS} {l : List P5} {size half : Int} {os olds : List O} {tz : Nat → Int} {st : St}
/-- The cells of object i. -/
structure ObCells (W : World) (gd qn i n cn : Nat) (o : S87) (Aw : Option Addr) (cw : Nat) : Prop where
  k2 : W.cell? ⟨gd, 2, none⟩ = some (.slice (some ⟨qn, 0, none⟩) n cn)
  l0 : W.cell? ⟨qn, i * 5, none⟩ = some (.int .i64 o.f0)
  l1 : W.cell? ⟨qn, i * 5 + 1, none⟩ = some (.int .i64 o.f1)
  l2 : W.cell? ⟨qn, i * 5 + 2, none⟩ = some (.int .i64 o.f2)
  l3 : W.cell? ⟨qn, i * 5 + 3, none⟩ = some (.slice Aw o.f3.length cw)
  l4 : W.cell? ⟨qn, i * 5 + 4, none⟩ = some (.int .i64 o.f4)
  tw : Tw W Aw o.f3
  cw : o.f3.length ≤ cw
theorem DocL.ob (D : DocL S w gd vn vo rs size half os olds tz) (i : Nat) (h : i < os.length) : ∃ qn cn Aw cw, vn = .slice (some ⟨qn, 0, none⟩) os.length cn ∧
    ∀ W, Below w.heap.size w W → ObCells W gd qn i os.length cn ⟨1 + half * size + (pos os i : Int), os[i].kind, os[i].tag, os[i].fs, 0⟩ Aw cw := by
  have hlen := D.len
  have hir : i < rs.now.length := by omega
  have hat := D.at i hir h
  obtain ⟨qn, cn, cells, rfl, hbn, hcell⟩ := D.lies.now.shape (by omega)
  obtain ⟨Aw, cw, hv⟩ := Kd.R_slice (D.lies.now.row i hir)
  have hrw := D.lies.now.row i hir
  have hcl := hcell i hir
  rw [hv] at hrw
  unfold P5.cells at hcl
  rw [hv] at hcl
  rw [hat] at hcl hrw
  rw [hlen] at D ⊢
  refine ⟨qn, cn, Aw, cw, rfl, fun W hb => ?_⟩
  have hbn2 := blk_below hbn hb
  exact ⟨(blk_cell (blk_below D.lies.blk hb) 2).trans rfl, (blk_cell hbn2 _).trans (hcl 0 _ rfl), (blk_cell hbn2 _).trans (hcl 1 _ rfl), (blk_cell hbn2 _).trans (hcl 2 _ rfl), (blk_cell hbn2 _).trans (hcl 3 _ rfl), (blk_cell hbn2 _).trans (hcl 4 _ rfl), (tw_row hrw).below hb, (Kd.R_reads' hrw).2.1⟩
set_option maxHeartbeats 4000000 in
theorem ref_live_yes (D : DocL S w g vn vo rs size half os olds tz) (A : Option Addr) (c : Nat) (xs : List Int) (hC : Kd.C (Kd.int .u64) w A xs.length xs) (hc : xs.length ≤ c) (hx : ∀ x ∈ xs, u64 x) (hxl : xs.length ≤ 1000) (hos : Whole os) {L : List Int} (hL : walkP (1 + half * size) os xs = (L, true)) :
    Calls Try.prog 29 #[.pointer (some ⟨g, 0, none⟩), .slice A xs.length c] w fun e w' => e = .returned (.tuple #[.int .i64 ((flat (L.map (obAt (1 + half * size) os))).length : Int), .int .i64 0]) ∧ Below w.heap.size w w' := by
  have hR := ref_reach D A c xs hC hc hx hxl hos
  rw [hL] at hR
  have hOL : Ord (1 + half * size) os L := by have := Ord.walkP (1 + half * size) os xs; rw [hL] at this; exact this
  have hlo := D.os_len
  have hlL := hOL.len
  have hof := ord_fit hOL
  have hfit := D.fit
  have hbs := D.bs
  go_enter Try.func29, Try.ntmps29
  go_wp2_with (first
    | (go_at_call 25; (with_reducible refine hR.mono ?_); clear hR; rintro e w2 ⟨v2, rfl, hv, -, hb2⟩
       replace hv := hv rfl
       obtain ⟨A2, c2, rfl⟩ := Kd.R_slice hv))
  go_loopw [8, 9] (fun v8 v9 wr => ∃ k : Nat, k ≤ L.length ∧ v9 = .int .i64 (k : Int) ∧ v8 = .int .i64 (pos (L.map (obAt (1 + half * size) os)) k : Int) ∧ Drawn0 w2 wr) (fun _ v9 _ => L.length - (intOf v9).toNat)
  case atStart => exact ⟨0, Nat.zero_le _, rfl, rfl, ⟨0, rfl⟩⟩
  case round =>
    obtain ⟨k, hk, rfl, rfl, hd⟩ := hrel
    by_cases hlt : k < L.length
    · have t1 : decide ((k : Int) < (L.length : Int)) = true := decide_eq_true (by omega)
      obtain ⟨i, hil, hie⟩ := mem_heads.1 (hOL.sub _ (List.getElem_mem hlt))
      obtain ⟨ad, e2, hrd⟩ := Kd.at_int (Kd.C_below (Kd.R_reads' hv).2.2 hd.below) (k : Int) (by omega) (by omega)
      subst e2
      have hrk : rd L (k : Int) = L[k] := by simp [rd, List.getD, hlt]
      rw [Int.toNat_natCast, hrk] at hrd
      have hbw := below_step hb2 hd.below
      obtain ⟨qn, cn, Aw, cw, rfl, hob⟩ := D.ob i hil
      have hfo := fun W (hb : Below w.heap.size w W) => (D.below hb).found i hil L[k] hie.symm W ⟨0, rfl⟩
      have hps := pos_succ (L.map (obAt (1 + half * size) os)) k (by rw [List.length_map]; exact hlt)
      rw [List.getElem_map] at hps
      have hoa : obAt (1 + half * size) os L[k] = os[i] := by rw [hie, obAt_at _ _ i hil]
      rw [hoa] at hps
      have hpm := pos_mono (L.map (obAt (1 + half * size) os)) (k + 1) (by rw [List.length_map]; omega)
      obtain ⟨k2, l0, l1, l2, l3, l4, tw, hcw⟩ := hob wr hbw
      dsimp only at l3
      generalize L[k] = a at *
      generalize os[i].fs.length = nn at *
      obtain ⟨p1, hp1⟩ : ∃ p, pos (L.map (obAt (1 + half * size) os)) k = p := ⟨_, rfl⟩
      obtain ⟨p2, hp2⟩ : ∃ p, pos (L.map (obAt (1 + half * size) os)) (k + 1) = p := ⟨_, rfl⟩
      rw [hp1, hp2] at hps
      rw [hp2] at hpm
      rw [hp1]
      have hw1 : IntKind.i64.wrap ((p1 : Int) + 1) = (p1 : Int) + 1 := wr64 (by omega)
      have hw2 : IntKind.i64.wrap ((p1 : Int) + 1 + (nn : Int)) = (p1 : Int) + 1 + (nn : Int) := wr64 (by omega)
      have d0i : decide (0 ≤ (i : Int)) = true := decide_eq_true (by omega)
      have d2i : (i < os.length) = True := eq_true hil
      have d1i : decide ((i : Int) < (os.length : Int)) = true := decide_eq_true (by omega)
      have HP2 := Aside0.mk hp2
      have HPS := Aside0.mk hps
      clear hp1 hp2 hps hpm hoa hrk hie hof hL
      go_wp2_with fail
      go_quiet (first | (go_at_call 63; (with_reducible exact q_of (hfo _ (below_step hbw (d0 _ _).below)))))
      go_wp2_with fail
      go_roundw
      case rel => exact ⟨k + 1, by omega, rfl, by rw [HP2.out, HPS.out]; congr 1; omega, drawn_trans hd (d0 _ _)⟩
      case measure => simp [intOf]; omega
    · obtain rfl : k = L.length := by omega
      have t1 : decide (((L.length : Nat) : Int) < (L.length : Int)) = false := decide_eq_false (by omega)
      go_wp2_with fail
      go_ret2
      have hpa := pos_all (L.map (obAt (1 + half * size) os))
      rw [List.length_map] at hpa
      rw [hpa]
      exact ⟨rfl, below_step hb2 hd.below⟩
theorem ref_live_no (D : DocL S w g vn vo rs size half os olds tz) (A : Option Addr) (c : Nat) (xs : List Int) (hC : Kd.C (Kd.int .u64) w A xs.length xs) (hc : xs.length ≤ c) (hx : ∀ x ∈ xs, u64 x) (hxl : xs.length ≤ 1000) (hos : Whole os) (hL : (walkP (1 + half * size) os xs).2 = false) :
    Calls Try.prog 29 #[.pointer (some ⟨g, 0, none⟩), .slice A xs.length c] w fun e w' => e = .returned (.tuple #[.int .i64 0, .int .i64 40]) ∧ Below w.heap.size w w' := by
  have hR := ref_reach D A c xs hC hc hx hxl hos
  rw [hL] at hR
  go_enter Try.func29, Try.ntmps29
  go_wp2_with (first
    | (go_at_call 25; (with_reducible refine hR.mono ?_); clear hR; rintro e w2 ⟨v2, rfl, -, hv, hb2⟩
       obtain rfl := hv rfl))
  go_ret2
  exact ⟨rfl, hb2⟩
set_option maxHeartbeats 8000000 in
theorem same_any (M : IsMem Sm w g st) (D : DocL S w gd vn vo rs st.size st.half st.os olds tz) :
    Calls Try.prog 22 #[.pointer (some ⟨g, 0, none⟩), .pointer (some ⟨gd, 0, none⟩)] w fun e w' => e = .returned (.bool true) ∧ Below w.heap.size w w' := by
  have hu87 := Try.underlying87
  have hH := fun W hd => (M.drawn (w' := W) hd).halfc
  have hN1 := fun W hd => (M.drawn (w' := W) hd).next
  have hN2 := fun W hd => Doc.next ⟨vn, vo, rs, D.drawn (w' := W) hd⟩
  have hF1 := fun W hd => (M.drawn (w' := W) hd).free
  have hF2 := fun W hd => Doc.free ⟨vn, vo, rs, D.drawn (w' := W) hd⟩
  have hlo := D.os_len
  have hc1 : w.cell? ⟨gd, 1, none⟩ = some (.int .i64 st.half) := by rw [← D.hf]; exact (blk_cell D.lies.blk 1).trans rfl
  rw [show st.f = 1 + st.half * st.size from rfl] at hN1
  obtain ⟨nx, hnx⟩ : ∃ n, 1 + st.half * st.size + ((flat st.os).length : Int) = n := ⟨_, rfl⟩
  obtain ⟨fr, hfr⟩ : ∃ n, st.size - ((flat st.os).length : Int) = n := ⟨_, rfl⟩
  obtain ⟨hf, hhf⟩ : ∃ n, st.half = n := ⟨_, rfl⟩
  rw [hnx] at hN1 hN2
  rw [hfr] at hF1 hF2
  rw [hhf] at hH hc1
  clear hnx hfr hhf
  go_enter Try.func22, Try.ntmps22
  go_wp2_with fail
  go_quiet (first
    | (go_at_call 30; (with_reducible exact Calls.quiet_of_same (hH _ (d0 _ _))))
    | (go_at_call 60; (with_reducible exact q_of (hN1 _ (d0 _ _))))
    | (go_at_call 61; (with_reducible exact q_of (hN2 _ (d0 _ _))))
    | (go_at_call 32; (with_reducible exact q_of (hF1 _ (d0 _ _))))
    | (go_at_call 62; (with_reducible exact q_of (hF2 _ (d0 _ _)))))
  go_wp2_with fail
  go_loopw [5] (fun v5 wr => ∃ k : Nat, k ≤ st.os.length ∧ v5 = .int .i64 (k : Int) ∧ Below w.heap.size w wr) (fun v5 _ => st.os.length - (intOf v5).toNat)
  case atStart => exact ⟨0, Nat.zero_le _, rfl, (d0 w nq).below⟩
  case round =>
    obtain ⟨k, hk, rfl, hb⟩ := hrel
    by_cases hlt : k < st.os.length
    · have t1 : decide ((k : Int) < (st.os.length : Int)) = true := decide_eq_true (by omega)
      obtain ⟨qn, cn, Aw, cw, rfl, hob⟩ := D.ob k hlt
      have hLk := fun W hb => (M.below (w' := W) hb).look k hlt
      have hLd := fun W hb j hj => (M.below (w' := W) hb).load k j hlt hj
      rw [show st.f = 1 + st.half * st.size from rfl] at hLk hLd
      obtain ⟨k2, l0, l1, l2, l3, l4, tw, hcw⟩ := hob wr hb
      dsimp only at l0 l1 l2 l3 l4 tw hcw
      have hpo := parts_of M k hlt
      have hwu := fun j hj => word_u64 M k hlt j hj
      generalize 1 + st.half * st.size + (pos st.os k : Int) = a0 at *
      generalize st.os[k].kind = kd at *
      generalize st.os[k].tag = tg at *
      generalize st.os[k].fs = fs at *
      have d0i : decide (0 ≤ (k : Int)) = true := decide_eq_true (by omega)
      have d2i : (k < st.os.length) = True := eq_true hlt
      have d1i : decide ((k : Int) < (st.os.length : Int)) = true := decide_eq_true (by omega)
      have hA := below_alloc hb (.cells #[.int .i64 a0, .int .i64 kd, .int .i64 tg, .slice Aw fs.length cw, .int .i64 0] 87)
      have hbx := blk_new wr (.cells #[.int .i64 a0, .int .i64 kd, .int .i64 tg, .slice Aw fs.length cw, .int .i64 0] 87)
      go_wp2_with (first
        | (go_at_call 34; (with_reducible refine (hLk _ hA).mono ?_); rintro e w5 ⟨rfl, hd5⟩
           have hb5 := below_step hA hd5.below
           have hx5 := blk_below hbx hd5.below
           have e1 := (blk_cell hx5 1).trans rfl
           have e2 := (blk_cell hx5 2).trans rfl
           have e3 := (blk_cell hx5 3).trans rfl))
      have hAw : Below wr.heap.size wr w5 := below_step (below_alloc (Below.refl _ wr) _) hd5.below
      have tw5 := tw.below hAw
      obtain ⟨bx, hbx'⟩ : ∃ bx, wr.heap.size = bx := ⟨_, rfl⟩
      rw [hbx'] at hx5 ⊢
      clear e1 e2 e3 hbx' hbx hA hAw tw l0 l1 l2 l3 l4 k2 hLk hd5
      go_loopw [11] (fun v11 wq => ∃ j : Nat, j ≤ fs.length ∧ v11 = .int .i64 (j : Int) ∧ Drawn0 w5 wq) (fun v11 _ => fs.length - (intOf v11).toNat)
      case atStart => exact ⟨0, Nat.zero_le _, rfl, ⟨0, rfl⟩⟩
      case round =>
        obtain ⟨j, hj, rfl, hd⟩ := hrel
        by_cases hjl : j < fs.length
        · have t2 : decide ((j : Int) < (fs.length : Int)) = true := decide_eq_true (by omega)
          obtain ⟨ad, e2, hrd⟩ := Kd.at_int (tw5.below hd.below).c (j : Int) (by omega) (by omega)
          subst e2
          have hrk : rd fs (j : Int) = fs.getD j 0 := by simp [rd]
          rw [Int.toNat_natCast, hrk] at hrd
          have hL := hLd wr (below_step hb5 hd.below) j hjl
          have hx6 := fun m => blk_below hx5 (drawn_trans hd (d0 wr m)).below
          have e0 := (blk_cell (blk_below hx5 hd.below) 0).trans rfl
          have hcd := fun m => (d0 wr m).below.cell (World.block_lt_of_cell? wr _ hrd)
          have d0j : decide (0 ≤ (j : Int)) = true := decide_eq_true (by omega)
          have d2j : (j < fs.length) = True := eq_true hjl
          generalize fs.getD j 0 = x at *
          clear hrk
          go_wp2_with (first
            | (go_at_call 56; (with_reducible refine hL.mono ?_); clear hL; rintro e w7 ⟨rfl, hd7⟩
               obtain ⟨m7, rfl⟩ := hd7.out
               have e3 := (blk_cell (hx6 m7) 3).trans rfl
               have e4 := (hcd m7).trans hrd))
          go_roundw
          case rel => exact ⟨j + 1, by omega, rfl, drawn_trans hd hd7⟩
          case measure => simp [intOf]; omega
        · obtain rfl : j = fs.length := by omega
          have t2 : decide (((fs.length : Nat) : Int) < (fs.length : Int)) = false := decide_eq_false (by omega)
          go_wp2_with fail
          exact ⟨⟨k + 1, by omega, rfl, below_step hb5 hd.below⟩, by simp [intOf]; omega⟩
    · obtain rfl : k = st.os.length := by omega
      have t1 : decide (((st.os.length : Nat) : Int) < (st.os.length : Int)) = false := decide_eq_false (by omega)
      have hlen := D.len
      obtain ⟨An, cn, rfl⟩ := D.lies.now.slice
      rw [hlen] at D
      have hc2 : wr.cell? ⟨gd, 2, none⟩ = some (.slice An st.os.length cn) := (blk_cell (blk_below D.lies.blk hb) 2).trans rfl
      go_wp2_with fail
      go_ret
      exact ⟨rfl, hb⟩
end Go.Proofs.Ytjccaojlldkmpaa.Rm
