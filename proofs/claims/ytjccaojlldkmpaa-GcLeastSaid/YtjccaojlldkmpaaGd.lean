/- gc.Collect, walked; a region within a round of a range over a function, by the walk that holds facts. -/
import Derived.Test.YtjccaojlldkmpaaGc
import Derived.WideLaws
import Derived.Test.YtjccaojlldkmpaaRg
import Derived.OrdersIn
import Derived.Deep.RegionHeld3
import Derived.TacticsIn
namespace Go.Proofs.Ytjccaojlldkmpaa.Rg
open Go.RowKit
set_option linter.unusedSimpArgs false
set_option linter.unusedVariables false
variable {P : Program} {ops : Array Oper} {Q : Exit → Act → World → Prop} {md : Region.Mode} {l n : Nat}
def noDefer (ops : Array Oper) : Bool := ops.all fun o => match o.op with
  | .defer _ => false
  | _ => true
theorem noDefer_spec (h : noDefer ops = true) (i : Nat) (o : Oper) (c : Call) (ho : ops[i]? = some o) : o.op ≠ .defer c := by
  intro e
  unfold noDefer at h
  rw [Array.all_eq_true] at h
  obtain ⟨hi, rfl⟩ := Array.getElem?_eq_some_iff.1 ho
  have := h i hi
  rw [e] at this
  cases this
theorem op_in (hd : noDefer ops = true) (hno : ¬ LetsOut Q) {i : Nat} {K : Act → World → Prop} {a : Act} {w : World} (h : wpOp P ops Q i K a w) : wpOpIn (Fence.wide.inRound l) n P ops Q i K a w := by
  unfold wpOp at h
  unfold wpOpIn
  cases ho : ops[i]? with
  | none => rw [ho] at h; exact h
  | some o =>
    rw [ho] at h
    simp only at h ⊢
    by_cases hw : Region.wanted o (yielded ops a.tmps) = true
    · rw [if_pos hw] at h ⊢
      rcases h with h | ⟨-, h⟩
      · refine ⟨fun _ _ => trivial, ?_⟩
        have e : o.semAt (Fence.wide.inRound l).round a.eval = execOp a.eval o := Oper.semAt_some l _ _ (fun c => noDefer_spec hd i o c ho)
        rw [e]
        unfold Oper.wp at h
        generalize (execOp a.eval o).run P w = r at h ⊢
        cases r with
        | ok x w' =>
          cases x <;> simp only [Oper.upon, Oper.uponIn] at h ⊢ <;>
            first
              | exact h
              | exact ⟨fun h0 => absurd h0 (by simp [Fence.wide, Fence.inRound]), CallsIn.inRound l (callsIn_wide.2 (h.mono (fun e w' he => by cases e <;> exact he)))⟩
              | exact ⟨fun h0 => absurd h0 (by simp [Fence.wide, Fence.inRound]), fun c cs _ => let ⟨v, w', r, s⟩ := h c cs; ⟨v, w', r, stepsIn_wide.2 s⟩⟩
        | halt x w' => cases x <;> simp only [Oper.upon, Oper.uponIn] at h ⊢ <;> exact h
      · exact absurd h hno
    · rw [if_neg hw] at h ⊢
      exact ⟨fun _ _ => trivial, h⟩
theorem any_in (hd : noDefer ops = true) (hno : ¬ LetsOut Q) : ∀ (fuel : Nat) (listed : Array Bool) (a : Act) (w : World), wpAny P md ops Q fuel listed a w → wpAnyIn (Fence.wide.inRound l) n P md ops Q fuel listed a w
  | 0, _, _, _, h => h
  | fuel + 1, _, _, _, h => ⟨h.1, fun i hi => wpOpIn_mono (fun a' w' h' => any_in hd hno fuel _ a' w' h') (op_in hd hno (h.2 i hi))⟩
theorem region_in {S : World → Prop} {id : Nat} {a : Act} {w : World} (hm : P.follows .mixedOrders = true) (hd : noDefer ops = true) (hno : ¬ LetsOut Q)
    (h : wpAnyH P .any ops Q S ops.size (Array.replicate ops.size false) a w.drew) : (Code.region id ops true).wpIn (Fence.wide.inRound l) n P Q a w :=
  wpIn_region_any hm (any_in hd hno _ _ _ _ (wpAny_of_held _ _ _ _ h))
end Go.Proofs.Ytjccaojlldkmpaa.Rg

namespace Go.Proofs.Ytjccaojlldkmpaa.Mem
open Go.RowKit Go.Proofs.YtjccaojlldkmpaaW.PrintWords Go.Proofs.YtjccaojlldkmpaaW.PrintLast Go.Proofs.YtjccaojlldkmpaaW.PrintMore
open Hf (rightB hdr headOf partsOf)
open Rg
set_option linter.unusedSimpArgs false
set_option linter.unusedVariables false
set_option maxRecDepth 100000
variable {S : Nat → Prop} {w W W' w' : World} {g n : Nat} {st : St}
variable {bm b7 : Nat} {S0 : Nat → Prop} {st0 : St} {L l l2 : List Int} {os os2 : List O} {vo : Value} {outs : List Int}
/-- What the closure and the memory are read from. -/
def Two (g bm b7 : Nat) (W : World) : Prop := W.cell? ⟨bm, 0, none⟩ = some (.pointer (some ⟨g, 0, none⟩)) ∧ W.cell? ⟨b7, 0, none⟩ = some (.func (.func 51) #[] #[.pointer (some ⟨bm, 0, none⟩)])
theorem Co.two {X : Nat → Obj → Prop} {B : Nat} (K : Co B X w W g bm b7 S0 st0 L l os vo outs) : Two g bm b7 W := ⟨(blk_cell K.m 0).trans rfl, (blk_cell K.f 0).trans rfl⟩
/-- Behind a collection that went well. -/
def Collected (w : World) (g : Nat) (S0 : Nat → Prop) (st0 : St) (L : List Int) (xs : List Int) (e : Ending) (W : World) : Prop :=
  ∃ S B d D, e = .returned (.tuple #[.slice B xs.length d, .int .i64 0]) ∧ IsMem S W g (cst st0 (L.map fun a => mapO (cw st0.f2 st0.f st0.os L) (obAt st0.f st0.os a).tag.toNat (obAt st0.f st0.os a)) D) ∧
    (∀ k, S k → S0 k ∨ w.heap.size ≤ k) ∧ (∀ k, S k → k < W.heap.size) ∧ (∀ k, (Value.slice B xs.length d).ownBlock = some k → ¬ S k) ∧
    (Kd.int .u64).R 56 W w.heap.size (fun _ => True) (.slice B xs.length d) (xs.map (cw st0.f2 st0.f st0.os L)) ∧ Fr S0 w W
theorem run_store_func {P : Program} {a : Addr} {m : Mode} (f : Fn) (x y : Array Value) : (store a (.func f x y) m).run P w = stored P w a (.func f x y) m := run_store P w a _ m rfl
attribute [local go_sem] Oper.semAt_some run_store_func
set_option maxHeartbeats 8000000 in
theorem collect_any (M : IsMem S0 w g st0) (hlt : ∀ k, S0 k → k < w.heap.size) (A : Option Addr) (c : Nat) (xs : List Int) (hC : Kd.C (Kd.int .u64) w A xs.length xs) (hx : ∀ x ∈ xs, 0 ≤ x ∧ x < 18446744073709551616) (hxl : xs.length ≤ 1000)
    (hA : ∀ ad, A = some ad → ¬ S0 ad.block ∧ ad.block < w.heap.size) (hL : walkP st0.f st0.os xs = (L, true)) :
    Calls Try.prog 19 #[.pointer (some ⟨g, 0, none⟩), .slice A xs.length c] w (Collected w g S0 st0 L xs) := by
  have hu83 := Try.underlying83
  have hCh : ∀ W, Below w.heap.size w W → _ := fun W hb => check_any (M.below hb) A c xs (Kd.C_below hC hb) hx (by omega)
  rw [hL] at hCh
  refine (callsIn_wide (n := 5)).1 (callsIn_of_wp_marks Try.func19 rfl trivial ?_ rfl)
  simp only [Try.ntmps19, List.size_toArray, List.length_cons, List.length_nil, Nat.reduceAdd, Nat.reduceSub, Array.replicate_succ, Array.replicate_zero, List.push_toArray, List.append_toArray, List.nil_append, List.cons_append]
  refine wpIn_wide.2 ?_
  go_wp2_with (first
    | (go_at_call 26; (with_reducible refine (hCh _ (below_alloc (Below.refl _ _) _)).mono ?_); clear hCh; rintro e w2 ⟨rfl, hb2⟩
       rw [World.size_alloc] at hb2
       have hbw := below_step (below_alloc (Below.refl _ w) (.cells #[.pointer (some ⟨g, 0, none⟩)] 26)) (by rw [World.size_alloc]; exact hb2)
       have M2 := M.below hbw
       have hF := M2.flip
       have hcm : w2.cell? ⟨w.heap.size, 0, none⟩ = some (.pointer (some ⟨g, 0, none⟩)) := (blk_cell ((hb2.block _ (Nat.lt_succ_self _)).trans (blk_new w _)) 0).trans rfl)
    | (go_at_call 50; (with_reducible refine hF.mono ?_); clear hF; rintro e w3 ⟨rfl, M3, fr3⟩)
    | ((with_reducible refine gate_dst (N := 7) rfl ?_); refine box_event ?hg (N := 7) ?hd (cs := #[.nilFunc]) (t := 83) ?hr ?_; (case hd => rfl); (case hg => rfl); (case hr => first | (go_simp; done) | (go_simp; rfl)); intro b7 hb7 w4 hbox hb4; have H7 := Aside0.mk hb7; clear hb7; have hc7 : w4.cell? ⟨b7, 0, none⟩ = some .nilFunc := (blk_cell hbox 0).trans rfl; have hf7 := blk_frozen hbox 0))
  have hOL : Ord st0.f st0.os L := by have := Ord.walkP st0.f st0.os xs; rw [hL] at this; exact this
  obtain ⟨hs1, hs2, hs3⟩ := M.lt
  have K0 := Co.start hlt hOL ⟨hs1, hs2⟩ hb2 M3 fr3 hb4 hbox H7.out
  obtain ⟨hx2, hO0, hIt, hItL⟩ := walk_run hL
  have hpreL : (addP st0.f st0.os [] xs).1 <+: L := by
    have := it_pre hO0 0 L.length
    rw [Nat.zero_add, hItL] at this
    exact this
  clear hb2 M3 fr3 hb4 hbox hc7 hf7 hcm hbw M2 hu83
  generalize hw5 : w4.setCell ⟨b7, 0, none⟩ (.func (.func 51) #[] #[.pointer (some ⟨w.heap.size, 0, none⟩)]) = w5 at K0 ⊢
  clear hw5
  generalize hbm : w.heap.size = bm at K0 ⊢
  have hB7 : w3.heap.size ≤ b7 := Nat.le_of_eq H7.out.symm
  generalize w3.heap.size = B0 at K0 hB7
  go_loopw [8, 30] (fun v i wr => ∃ k : Nat, k ≤ xs.length ∧ i = .int .i64 (k : Int) ∧ Co B0 (fun _ _ => False) w wr g bm b7 S0 st0 L (addP st0.f st0.os [] (xs.take k)).1 ((addP st0.f st0.os [] (xs.take k)).1.map (obAt st0.f st0.os)) v ((xs.take k).map (cw st0.f2 st0.f st0.os L))) (fun _ i _ => xs.length - (intOf i).toNat)
  case atStart => exact ⟨0, Nat.zero_le _, rfl, K0⟩
  case round =>
    clear K0
    obtain ⟨k, hk, rfl, K⟩ := hrel
    obtain ⟨Av, cv, rfl⟩ := Kd.R_slice K.o
    by_cases hk1 : k < xs.length
    · have t1 : decide ((k : Int) < (xs.length : Int)) = true := decide_eq_true (by omega)
      have hCr := C_fr hC K.fr (fun ad h => (hA ad h).1)
      obtain ⟨ad, rfl, hrd⟩ := Kd.at_int hCr (k : Int) (by omega) (by omega)
      rw [Int.toNat_natCast] at hrd
      have t0 : decide (0 ≤ (k : Int)) = true := decide_eq_true (by omega)
      have hrx : rd xs (k : Int) = xs[k] := by simp [rd, List.getD, hk1]
      have hadd := addP_round (f := st0.f) (os := st0.os) [] xs k hk1 hx2
      have hpre2 := (addP_pre [] xs (k + 1) (Ord.nil st0.f st0.os) hx2).trans hpreL
      have hlen : ((xs.take k).map (cw st0.f2 st0.f st0.os L)).length = k := by rw [List.length_map, List.length_take]; omega
      rw [hlen] at K ⊢
      have hMv := K.moved (hx _ (List.getElem_mem hk1)) hadd hpre2
      rw [← hrx] at hMv
      have hcf : wr.cell? ⟨b7, 0, none⟩ = some (.func (.func 51) #[] #[.pointer (some ⟨bm, 0, none⟩)]) := (blk_cell K.f 0).trans rfl
      obtain ⟨y, hY⟩ : ∃ y, cw st0.f2 st0.f st0.os L (rd xs (k : Int)) = y := ⟨_, rfl⟩
      rw [hY] at hMv
      have hY' := Aside0.mk hY
      have hrx' := Aside0.mk hrx
      have hlen' := Aside0.mk hlen
      clear hadd hCr hY hrx hlen
      go_wp2_with (first
        | (go_at_call 51; (with_reducible refine hMv.mono ?_); clear hMv; rintro e w6 ⟨rfl, K6, -⟩)
        | ((with_reducible refine gate_builtin (b := .append) (xs := #[.tmp 34, .tmp 38]) rfl ?_); at_builtin; refine Kd.R_append (Kd.int .u64) (w0 := w6) w.heap.size rfl (.tmp 34) (.tmp 38) 32 56 (.int .u64 0) 8 rfl Try.underlying32 info22 rfl (by decide) (by omega) (.slice Av k cv) ((xs.take k).map (cw st0.f2 st0.f st0.os L)) y [.int .u64 y] (fun _ => True) (fun _ => False) rfl rfl rfl (fun _ hk => hk.elim) (fun _ _ => trivial) K6.o (Below.refl _ _) K6.fr.low.size (by rw [hlen'.out]; omega) ?_; intro v7 w7 ho7 hb7' hg7 hat7
           have K7 := K6.grown ho7 hg7 hat7))
      go_roundw
      case rel =>
        refine ⟨k + 1, by omega, by simp, ?_⟩
        have e2 : (addP st0.f st0.os [] (xs.take k)).1 ++ ((addP st0.f st0.os [] (xs.take (k + 1))).1.drop (addP st0.f st0.os [] (xs.take k)).1.length) = (addP st0.f st0.os [] (xs.take (k + 1))).1 := by
          obtain ⟨t, e⟩ := (addP_pre2 (f := st0.f) (os := st0.os) [] xs k (Ord.nil _ _) hx2)
          rw [← e, List.drop_left]
        have e3 : (xs.take (k + 1)).map (cw st0.f2 st0.f st0.os L) = (xs.take k).map (cw st0.f2 st0.f st0.os L) ++ [y] := by
          rw [List.take_succ_eq_append_getElem hk1, List.map_append, List.map_cons, List.map_nil, ← hrx'.out, hY'.out]
        rw [← List.map_append, e2] at K7
        rw [e3]
        exact K7
      case measure => simp [intOf]; omega
    · obtain rfl : k = xs.length := by omega
      have t1 : decide (((xs.length : Nat) : Int) < (xs.length : Int)) = false := decide_eq_false (by omega)
      rw [List.take_length] at K ⊢
      have hcm : wr.cell? ⟨bm, 0, none⟩ = some (.pointer (some ⟨g, 0, none⟩)) := (blk_cell K.m 0).trans rfl
      have KB := K.box (.cells #[.pointer (some ⟨g, 0, none⟩)] 26)
      have hB0 : B0 ≤ wr.heap.size := by
        have := blk_lt K.f
        omega
      have hlm : (xs.map (cw st0.f2 st0.f st0.os L)).length = xs.length := List.length_map _
      rw [hlm] at KB
      go_wp2_with (first | (go_at_call 31; (with_reducible refine (objects_any _ _).mono ?_); rintro e w6 ⟨rfl, rfl⟩))
      clear hcm t1 K
      obtain ⟨Bx, hBx⟩ : ∃ Bx, wr.heap.size = Bx := ⟨_, rfl⟩
      have hsz6 : (wr.alloc (.cells #[.pointer (some ⟨g, 0, none⟩)] 26)).heap.size = Bx + 1 := by rw [World.size_alloc, hBx]
      rw [hBx] at KB hB0 ⊢
      generalize wr.alloc (.cells #[.pointer (some ⟨g, 0, none⟩)] 26) = w6 at KB hsz6 ⊢
      clear hBx
      refine (wpIn_wide (n := 5)).1 ?_
      refine' range_all (F := Fence.wide) (n := 5) rfl (by omega) (gf := 66) (lb := #[.pointer (some ⟨Bx, 0, none⟩)]) rfl trivial (enters_of Try.func66 (by kernel_rfl) rfl)
        (encs := fun k => #[.int .i64 (st0.f2 + (pos (stg (cw st0.f2 st0.f st0.os L) st0.f st0.os (it st0.f st0.os (addP st0.f st0.os [] xs).1 k) k 0) k : Int))]) (N := L.length)
        (fun k W => Co B0 (fun k o' => k = Bx ∧ o' = .cells #[.pointer (some ⟨g, 0, none⟩)] 26) w W g bm b7 S0 st0 L (it st0.f st0.os (addP st0.f st0.os [] xs).1 k) (stg (cw st0.f2 st0.f st0.os L) st0.f st0.os (it st0.f st0.os (addP st0.f st0.os [] xs).1 k) k 0) (.slice Av xs.length cv) (xs.map (cw st0.f2 st0.f st0.os L)))
        (w0 := w6) (objs_feeds (g := g) Fence.wide (5 - 1) trivial rfl (by omega) Bx L.length (fun k => cst st0 (stg (cw st0.f2 st0.f st0.os L) st0.f st0.os (it st0.f st0.os (addP st0.f st0.os [] xs).1 k) k 0) (.map [])) _ w6 ?hI ?hlt ?hN) (Below.refl _ _) (fun _ => rfl) ?own ?h0 _ ?assign ?body ?done
      case hI =>
        intro k W _ KK
        refine ⟨KK.x Bx _ ⟨rfl, rfl⟩, ?_⟩
        obtain ⟨S, ⟨D, C⟩, F⟩ := KK.c
        exact ⟨S, D, C.mem.mem⟩
      case hlt =>
        intro k hk
        show k < (stg _ _ _ _ _ _).length
        rw [stg_length]
        exact (hIt k hk).1
      case hN =>
        show (stg _ _ _ _ _ _).length = _
        rw [stg_length, hItL]
      case own =>
        intro k W W' row KK hg hr
        exact KK.kept hg hr (by omega) KB.fr.low.size (fun _ o h => by rw [h.2]; rfl)
      case h0 =>
        show Co _ _ _ _ _ _ _ _ _ _ _ (stg (cw st0.f2 st0.f st0.os L) st0.f st0.os (addP st0.f st0.os [] xs).1 0 0) _ _
        rw [stg_zero]
        exact KB
      case assign =>
        intro l k W K' hK
        gi_wp2
        exact hK
      case body =>
        intro l k W KK hk
        obtain ⟨hkl, hok⟩ := hIt k hk
        have hnx := it_pre hO0 (k + 1) (L.length - (k + 1))
        rw [show k + 1 + (L.length - (k + 1)) = L.length by omega, hItL, it_succ] at hnx
        have hOk := it_ord hO0 k
        generalize hlk : it st0.f st0.os (addP st0.f st0.os [] xs).1 k = lk at KK hkl hok hnx hOk ⊢
        have hgd : lk.getD k 0 = lk[k] := by simp [List.getD, hkl]
        rw [hgd] at hok hnx
        obtain ⟨o, hO⟩ : ∃ o, obAt st0.f st0.os lk[k] = o := ⟨_, rfl⟩
        have hts := tg_obAt st0.f st0.os lk[k] (hOk.sub _ (List.getElem_mem hkl))
        rw [hO] at hts
        have hk0 : k < (stg (cw st0.f2 st0.f st0.os L) st0.f st0.os lk k 0).length := by rw [stg_length]; exact hkl
        have hat := stg_at (f := st0.f) (os := st0.os) (cw st0.f2 st0.f st0.os L) lk k 0 hkl hk0
        rw [hO, mapO_zero] at hat
        have hLook := KK.look k hk0
        rw [hat] at hLook
        obtain ⟨q, hq, hq1, hq2⟩ : ∃ q : Nat, o.tag = (q : Int) ∧ q ≤ o.fs.length ∧ o.fs.length ≤ 16384 := by
          have h := KK.tag k hk0
          rw [hat] at h
          exact h
        have hrange : ∀ x ∈ o.fs, 0 ≤ x ∧ x < 18446744073709551616 := by
          have h := (KK.obj_ok k hk0).2
          rw [hat] at h
          exact h
        rw [hq, Int.toNat_natCast] at hts
        rw [hts] at hok hnx
        have hposk : ∀ (l2 : List Int) (j : Nat), lk <+: l2 → pos (stg (cw st0.f2 st0.f st0.os L) st0.f st0.os l2 k j) k = pos (stg (cw st0.f2 st0.f st0.os L) st0.f st0.os lk k 0) k := fun l2 j h => by
          rw [stg_pos, stg_pos, pos_map_pre _ h _ (by omega)]
        obtain ⟨a, hA⟩ : ∃ a, st0.f2 + (pos (stg (cw st0.f2 st0.f st0.os L) st0.f st0.os lk k 0) k : Int) = a := ⟨_, rfl⟩
        rw [hA, hq] at hLook
        have hcm : W.cell? ⟨bm, 0, none⟩ = some (.pointer (some ⟨g, 0, none⟩)) := (blk_cell KK.m 0).trans rfl
        have hKF0 : KeepsFrom w6.heap.size W W := KeepsFrom.refl _ _
        have hAA := Aside0.mk hA
        have hQQ := Aside0.mk hq
        have hLK := Aside0.mk hlk
        have hOO := Aside0.mk hO
        have hGG := Aside0.mk hgd
        have hTT := Aside0.mk hat
        clear hA hq hlk hO hgd hat
        gi_wp2_with fail
        rw [hAA.out]
        refine ⟨trivial, (CallsIn.inRound l ((callsIn_wide (n := 2)).2 hLook)).mono ?_⟩
        clear hLook
        rintro e w7 ⟨rfl, hd7⟩
        have K7 := KK.drawn hd7
        have hKF7 : KeepsFrom w6.heap.size W w7 := by
          obtain ⟨m7, rfl⟩ := hd7
          exact ⟨Nat.le_refl _, fun k o _ h _ => h⟩
        clear KK hcm hKF0 hd7
        obtain ⟨ts, hTS⟩ : ∃ ts, o.fs.take q = ts := ⟨_, rfl⟩
        rw [hTS] at hok hnx hts
        have htl : ts.length = q := by rw [← hTS, List.length_take]; omega
        gi_wp2_with fail
        gi_loopw [53] (fun jv wr => ∃ j : Nat, jv = .int .i64 (j : Int) ∧ j ≤ q ∧ Co B0 (fun k o' => k = Bx ∧ o' = .cells #[.pointer (some ⟨g, 0, none⟩)] 26) w wr g bm b7 S0 st0 L (addP st0.f st0.os lk (ts.take j)).1 (stg (cw st0.f2 st0.f st0.os L) st0.f st0.os (addP st0.f st0.os lk (ts.take j)).1 k j) (.slice Av xs.length cv) (xs.map (cw st0.f2 st0.f st0.os L)) ∧ KeepsFrom w6.heap.size W wr) (fun jv _ => q - (intOf jv).toNat)
        case atStart => exact ⟨0, rfl, Nat.zero_le _, K7, hKF7⟩
        case round =>
          clear K7 hKF7
          obtain ⟨j, rfl, hjq, K, hKF⟩ := hrel
          by_cases hj : j < q
          · have t1 : decide ((j : Int) < (q : Int)) = true := decide_eq_true (by omega)
            have hjt : j < ts.length := by omega
            have hadd := addP_round (f := st0.f) (os := st0.os) lk ts j hjt hok
            have hpj := (hOk.addP (ts.take j)).2
            have hp2 := (addP_pre lk ts (j + 1) hOk hok).trans hnx
            have hp12 := addP_pre2 lk ts j hOk hok
            generalize hlj2 : (addP st0.f st0.os lk (ts.take (j + 1))).1 = lj2 at hadd hp2 hp12
            have hLJ2 := Aside0.mk hlj2
            clear hlj2
            have htx : ts[j] = o.fs.getD j 0 := by
              have : (o.fs.take q)[j]'(by rw [List.length_take]; omega) = o.fs[j] := List.getElem_take
              simp [← hTS, List.getD, show j < o.fs.length by omega]
            generalize hlj : (addP st0.f st0.os lk (ts.take j)).1 = lj at K hadd hpj hp12
            have hkj : k < lj.length := Nat.lt_of_lt_of_le hkl hpj.length_le
            have hkj2 : k < lj2.length := Nat.lt_of_lt_of_le hkj hp12.length_le
            have hob : obAt st0.f st0.os lj[k] = o := by rw [prefix_get hpj k hkl hkj, hOO.out]
            have hob2 : obAt st0.f st0.os lj2[k] = o := by rw [prefix_get hp12 k hkj hkj2, hob]
            have hsk : k < (stg (cw st0.f2 st0.f st0.os L) st0.f st0.os lj k j).length := by rw [stg_length]; exact hkj
            have hsat := stg_at (f := st0.f) (os := st0.os) (cw st0.f2 st0.f st0.os L) lj k j hkj hsk
            rw [hob] at hsat
            have hjo : j < o.fs.length := by omega
            have hLd := K.load k j hsk (by rw [hsat, mapO_len]; exact hjo)
            rw [hsat, mapO_rest _ _ _ hjo, hposk lj j hpj, hAA.out, ← htx] at hLd
            have hxr := hrange (o.fs.getD j 0) (getD_mem hjo)
            rw [← htx] at hxr
            have hcm : wr.cell? ⟨bm, 0, none⟩ = some (.pointer (some ⟨g, 0, none⟩)) := (blk_cell K.m 0).trans rfl
            obtain ⟨x, hX⟩ : ∃ x, ts[j] = x := ⟨_, rfl⟩
            rw [hX] at hLd hxr hadd
            have hXX := Aside0.mk (htx.symm.trans hX)
            have hSS := Aside0.mk hsat
            have hBB := Aside0.mk hob
            have hBB2 := Aside0.mk hob2
            have hLJ := Aside0.mk hlj
            clear hX htx hsat hob hob2 hlj
            gi_wp2_with fail
            refine ⟨trivial, (CallsIn.inRound l ((callsIn_wide (n := 2)).2 hLd)).mono ?_⟩
            clear hLd
            rintro e w8 ⟨rfl, hd8⟩
            have K8 := K.drawn hd8
            have hKF8 : KeepsFrom w6.heap.size W w8 := by
              obtain ⟨m8, rfl⟩ := hd8
              exact ⟨hKF.size, hKF.same⟩
            clear K hcm hd8 hKF
            gi_wp2_with fail
            have hcm8 : w8.cell? ⟨bm, 0, none⟩ = some (.pointer (some ⟨g, 0, none⟩)) := (blk_cell K8.m 0).trans rfl
            have hcf8 : w8.cell? ⟨b7, 0, none⟩ = some (.func (.func 51) #[] #[.pointer (some ⟨bm, 0, none⟩)]) := (blk_cell K8.f 0).trans rfl
            have K8d := K8.drawn (W' := w8.drew) ⟨1, rfl⟩
            have hcm8d : w8.drew.cell? ⟨bm, 0, none⟩ = some (.pointer (some ⟨g, 0, none⟩)) := hcm8
            have hcf8d : w8.drew.cell? ⟨b7, 0, none⟩ = some (.func (.func 51) #[] #[.pointer (some ⟨bm, 0, none⟩)]) := hcf8
            have hMv := K8d.moved hxr hadd hp2
            rw [stg_ext (cw st0.f2 st0.f st0.os L) hp12 k j hkj] at hMv
            obtain ⟨y, hYY⟩ : ∃ y, cw st0.f2 st0.f st0.os L x = y := ⟨_, rfl⟩
            have hyr := cw_range K8d hxr hOL
            rw [hYY] at hMv hyr
            have hY0 := Aside0.mk hYY
            clear hYY
            have hSt : ∀ W9, Co B0 (fun k o' => k = Bx ∧ o' = .cells #[.pointer (some ⟨g, 0, none⟩)] 26) w W9 g bm b7 S0 st0 L lj2 (stg (cw st0.f2 st0.f st0.os L) st0.f st0.os lj2 k j) (.slice Av xs.length cv) (xs.map (cw st0.f2 st0.f st0.os L)) →
                Calls Try.prog 44 #[.pointer (some ⟨g, 0, none⟩), .int .i64 a, .int .i64 (j : Int), .int .u64 y] W9 fun e w' => e = .returned (.int .i64 0) ∧ Co B0 (fun k o' => k = Bx ∧ o' = .cells #[.pointer (some ⟨g, 0, none⟩)] 26) w w' g bm b7 S0 st0 L lj2 (stg (cw st0.f2 st0.f st0.os L) st0.f st0.os lj2 k (j + 1)) (.slice Av xs.length cv) (xs.map (cw st0.f2 st0.f st0.os L)) ∧ ∀ B', B0 ≤ B' → KeepsFrom B' W9 w' := by
              intro W9 K9
              have hsk2 : k < (stg (cw st0.f2 st0.f st0.os L) st0.f st0.os lj2 k j).length := by rw [stg_length]; exact hkj2
              have hsat2 := stg_at (f := st0.f) (os := st0.os) (cw st0.f2 st0.f st0.os L) lj2 k j hkj2 hsk2
              rw [hBB2.out] at hsat2
              have h := K9.store k j y hsk2 (by rw [hsat2, mapO_len]; exact hjo) hyr
              rw [hposk lj2 j (hpj.trans hp12), hAA.out] at h
              have hp := stg_put (cw st0.f2 st0.f st0.os L) st0.f st0.os lj2 k j hkj2 (by rw [hBB2.out]; exact hjo)
              rw [hBB2.out, hXX.out, hY0.out] at hp
              rw [hp] at h
              exact h
            have hTwo := K8d.two
            refine region_in (S := Two g bm b7) (by kernel_rfl) (by kernel_rfl) ?hno ?go
            case hno => rintro ⟨_, _, h⟩; exact h
            case go =>
            refine wpAnyH_take (i := 0) (oi := { dst := some 63, op := .load 26 (.tmp 2), type := 26, pos := "gc.go:109", after := #[], guard := none }) (v := .pointer (some ⟨g, 0, none⟩)) rfl (by kernel_rfl) (by kernel_rfl) (by kernel_rfl) (fun _ _ _ h => h) (Or.inl ⟨by rfl, ?_⟩) hTwo ?_
            · rintro W9 ⟨h1, h2⟩
              go_simp
            try simp only [Act.put, List.setIfInBounds_toArray, List.set_cons_zero, List.set_cons_succ]
            refine wpAnyH_take (i := 1) (oi := { dst := some 64, op := .move (.tmp 11), type := 3, pos := "gc.go:109", after := #[], guard := none }) (v := .int .i64 a) rfl (by kernel_rfl) (by kernel_rfl) (by kernel_rfl) (fun _ _ _ h => h) (Or.inl ⟨by rfl, ?_⟩) hTwo ?_
            · rintro W9 ⟨h1, h2⟩
              go_simp
            try simp only [Act.put, List.setIfInBounds_toArray, List.set_cons_zero, List.set_cons_succ]
            refine wpAnyH_take (i := 2) (oi := { dst := some 65, op := .move (.tmp 16), type := 3, pos := "gc.go:109", after := #[], guard := none }) (v := .int .i64 (j : Int)) rfl (by kernel_rfl) (by kernel_rfl) (by kernel_rfl) (fun _ _ _ h => h) (Or.inl ⟨by rfl, ?_⟩) hTwo ?_
            · rintro W9 ⟨h1, h2⟩
              go_simp
            try simp only [Act.put, List.setIfInBounds_toArray, List.set_cons_zero, List.set_cons_succ]
            refine wpAnyH_take (i := 3) (oi := { dst := some 66, op := .load 83 (.tmp 7), type := 83, pos := "gc.go:109", after := #[], guard := none }) (v := .func (.func 51) #[] #[.pointer (some ⟨bm, 0, none⟩)]) rfl (by kernel_rfl) (by kernel_rfl) (by kernel_rfl) (fun _ _ _ h => h) (Or.inl ⟨by rfl, ?_⟩) hTwo ?_
            · rintro W9 ⟨h1, h2⟩
              go_simp
            try simp only [Act.put, List.setIfInBounds_toArray, List.set_cons_zero, List.set_cons_succ]
            refine wpAnyH_take (i := 4) (oi := { dst := some 67, op := .move (.tmp 17), type := 56, pos := "gc.go:109", after := #[], guard := none }) (v := .int .u64 x) rfl (by kernel_rfl) (by kernel_rfl) (by kernel_rfl) (fun _ _ _ h => h) (Or.inl ⟨by rfl, ?_⟩) hTwo ?_
            · rintro W9 ⟨h1, h2⟩
              go_simp
            try simp only [Act.put, List.setIfInBounds_toArray, List.set_cons_zero, List.set_cons_succ]
            refine wpAnyH_ready (rs := [5]) (by kernel_rfl) (by simp) (AllReadyH.cons (o := { dst := some 68, op := .call { callee := .value (.tmp 66), args := #[.tmp 67], argTypes := #[56] }, type := 56, pos := "gc.go:109", after := #[{ on := 3, ground := .data }, { on := 4, ground := .data }], guard := none }) rfl (fun K' hK' => ?_) AllReadyH.nil)
            go_simp
            refine hMv.mono ?_
            rintro e w9 ⟨rfl, K9, hK9⟩
            refine hK'.out _ _ K9.two (fun hTwo9 => ?_)
            try simp only [Act.put, List.setIfInBounds_toArray, List.set_cons_zero, List.set_cons_succ]
            refine wpAnyH_ready (rs := [6]) (by kernel_rfl) (by simp) (AllReadyH.cons (o := { dst := some 69, op := .call { callee := .value (.func 44), args := #[.tmp 63, .tmp 64, .tmp 65, .tmp 68], argTypes := #[26, 3, 3, 56] }, type := 35, pos := "gc.go:109", after := #[{ on := 0, ground := .data }, { on := 1, ground := .data }, { on := 2, ground := .data }, { on := 5, ground := .data }, { on := 5, ground := .chain }], guard := none }) rfl (fun K'' hK'' => ?_) AllReadyH.nil)
            go_simp
            refine (hSt _ K9).mono ?_
            rintro e w10 ⟨rfl, K10, hK10⟩
            refine hK''.out _ _ K10.two (fun hTwo10 => ?_)
            try simp only [Act.put, List.setIfInBounds_toArray, List.set_cons_zero, List.set_cons_succ]
            refine wpAnyH_done (by kernel_rfl) ?_ _
            have hBS : B0 ≤ w6.heap.size := by omega
            have hKF10 : KeepsFrom w6.heap.size W w10 := ((hKF8.trans (Z := w8.drew) ⟨Nat.le_refl _, fun k o _ h _ => h⟩).trans (hK9 _ hBS)).trans (hK10 _ hBS)
            clear hTwo hTwo9 hTwo10 hK9 hK10 K9 K8 K8d hcm8 hcf8 hcm8d hcf8d hSt hMv hK'' hK'
            gi_wp2_with fail
            go_roundw
            case rel => exact ⟨j + 1, by simp, by omega, by rw [hLJ2.out]; exact K10, hKF10⟩
            case measure => simp [intOf]; omega
          · obtain rfl : j = q := by omega
            have t1 : decide ((j : Int) < (j : Int)) = false := decide_eq_false (by omega)
            gi_wp2_with fail
            refine ⟨hKF, ?_⟩
            have e1 : it st0.f st0.os (addP st0.f st0.os [] xs).1 (k + 1) = (addP st0.f st0.os lk ts).1 := by
              rw [it_succ, hLK.out, hGG.out, hts]
            show Co _ _ _ _ _ _ _ _ _ _ (it st0.f st0.os (addP st0.f st0.os [] xs).1 (k + 1)) (stg (cw st0.f2 st0.f st0.os L) st0.f st0.os (it st0.f st0.os (addP st0.f st0.os [] xs).1 (k + 1)) (k + 1) 0) _ _
            rw [e1]
            rw [show ts.take j = ts by rw [← htl, List.take_length]] at K
            have hpl := (hOk.addP ts).2
            have hkl2 : k < (addP st0.f st0.os lk ts).1.length := Nat.lt_of_lt_of_le hkl hpl.length_le
            have hdn := stg_done (cw st0.f2 st0.f st0.os L) st0.f st0.os (addP st0.f st0.os lk ts).1 k hkl2
            rw [prefix_get hpl k hkl hkl2, hOO.out, hQQ.out, Int.toNat_natCast] at hdn
            rw [← hdn]
            exact K
      case done =>
        intro D W hD KK hdf
        rw [hItL, stg_full] at KK
        go_wp2_with fail
        refine ⟨by simp, .inl ⟨_, _, rfl, run_takeDeferred hdf, ?_⟩⟩
        have KE := KK.kept (grownBy_putObj' W D (.deferred none)) (B' := w6.heap.size) (fun r e => by cases e; exact ⟨hD, _, hdf, rfl⟩) (by omega) KB.fr.low.size (fun _ o h => by rw [h.2]; rfl)
        obtain ⟨S, ⟨DD, C⟩, F⟩ := KE.c
        exact ⟨_, results_tmp2 rfl _ _ _, S, Av, cv, DD, rfl, C.mem.mem, F.up, F.lt, F.no, KE.o, KE.fr⟩
end Go.Proofs.Ytjccaojlldkmpaa.Mem

