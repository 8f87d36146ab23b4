/- gc.Collect: the closure that moves a word. -/
import Derived.Test.YtjccaojlldkmpaaGp
import Derived.Test.YtjccaojlldkmpaaGr
namespace Go.Proofs.Ytjccaojlldkmpaa.Mem
open Go.RowKit Go.Proofs.YtjccaojlldkmpaaW.PrintWords Go.Proofs.YtjccaojlldkmpaaW.PrintLast Go.Proofs.YtjccaojlldkmpaaW.PrintMore
open Hf (rightB hdr headOf partsOf)
set_option linter.unusedSimpArgs false
set_option linter.unusedVariables false
set_option maxRecDepth 100000
variable {S : Nat → Prop} {w W w' : World} {g n B : Nat} {st : St}
/-- The words of some objects. -/
def tot (ns : List Nat) (l : List Nat) : Nat := (l.map (fun i => ns.getD i 0 + 1)).sum
theorem tot_append (ns a b : List Nat) : tot ns (a ++ b) = tot ns a + tot ns b := by simp [tot]
theorem tot_erase (ns : List Nat) (a : Nat) : ∀ l : List Nat, a ∈ l → tot ns l = (ns.getD a 0 + 1) + tot ns (l.erase a)
  | [], h => by cases h
  | b :: l, h => by
    by_cases e : b = a
    · subst e
      rw [List.erase_cons_head]
      simp [tot]
    · have hm : a ∈ l := by
        rcases List.mem_cons.1 h with h | h
        · exact absurd h.symm e
        · exact h
      rw [List.erase_cons_tail (by simpa using e)]
      have := tot_erase ns a l hm
      simp only [tot, List.map_cons, List.sum_cons] at this ⊢
      omega
theorem tot_le (ns : List Nat) (n : Nat) : ∀ l : List Nat, l.Nodup → (∀ i ∈ l, i < n) → tot ns l ≤ tot ns (List.range n) := by
  induction n with
  | zero =>
    intro l _ h
    cases l with
    | nil => exact Nat.le_refl _
    | cons a l => exact absurd (h a (by simp)) (Nat.not_lt_zero a)
  | succ n ih =>
    intro l hn h
    rw [List.range_succ, tot_append]
    have h1 : tot ns [n] = ns.getD n 0 + 1 := by simp [tot]
    by_cases hm : n ∈ l
    · have h2 := ih (l.erase n) (hn.erase n) (fun i hi => by
        have := (List.Nodup.mem_erase_iff hn).1 hi
        have := h i this.2
        omega)
      rw [tot_erase ns n l hm]
      omega
    · have h2 := ih l hn (fun i hi => by
        have h3 := h i hi
        have : i ≠ n := fun e => hm (e ▸ hi)
        omega)
      omega
/-- Different objects need no more room than all. -/
theorem ord_fit {f : Int} {os : List O} {l : List Int} (h : Ord f os l) : (flat (l.map (obAt f os))).length ≤ (flat os).length := by
  have e1 : (flat (l.map (obAt f os))).length = tot (os.map (fun o => o.fs.length)) (l.map (fun a => (heads f os).idxOf a)) := by
    rw [flat_len]
    unfold tot
    rw [List.map_map, List.map_map, List.map_map]
    congr 1
    apply List.map_congr_left
    intro a ha
    obtain ⟨i, hi, rfl⟩ := mem_heads.1 (h.sub a ha)
    simp only [Function.comp_def, obAt_at f os i hi, heads_idx f os i hi]
    simp [List.getD, hi]
  have e2 : (flat os).length = tot (os.map (fun o => o.fs.length)) (List.range os.length) := by
    rw [flat_len]
    unfold tot
    congr 1
    apply List.ext_getElem
    · simp
    · intro i h1 h2
      have hi : i < os.length := by simpa using h2
      simp [List.getD, hi]
  rw [e1, e2]
  apply tot_le
  · have h2 : (l.map (fun a => (heads f os).idxOf a)).Nodup := by
      rw [List.Nodup, List.pairwise_map]
      refine List.Pairwise.imp_of_mem ?_ h.nd
      intro a b ha hb hab e
      obtain ⟨i, hi, rfl⟩ := mem_heads.1 (h.sub a ha)
      obtain ⟨j, hj, rfl⟩ := mem_heads.1 (h.sub b hb)
      rw [heads_idx f os i hi, heads_idx f os j hj] at e
      exact hab (by rw [e])
    exact h2
  · intro i hi
    obtain ⟨a, ha, rfl⟩ := List.mem_map.1 hi
    obtain ⟨j, hj, rfl⟩ := mem_heads.1 (h.sub a ha)
    rw [heads_idx f os j hj]
    exact hj
/-- The state on the way. -/
def cst (st0 : St) (os : List O) (D : DataW Unit) : St := ⟨st0.size, 1 - st0.half, os, st0.os, D⟩
theorem cst_f (st0 : St) (os : List O) (D : DataW Unit) : (cst st0 os D).f = st0.f2 := rfl
theorem cst_f2 (st0 : St) (os : List O) (D : DataW Unit) : (cst st0 os D).f2 = st0.f := by
  show 1 + (1 - (1 - st0.half)) * st0.size = 1 + st0.half * st0.size
  rw [show 1 - (1 - st0.half) = st0.half by omega]
structure CqD (B : Nat) (S : Nat → Prop) (w : World) (g : Nat) (st0 : St) (L l : List Int) (os : List O) (D : DataW Unit) : Prop where
  mem : IsAt B S w g (cst st0 os D)
  isMap : Maps.IsMap D
  yes : ∀ p (h : p < l.length), Maps.has D (.int .i64 l[p]) = true ∧ ∀ z, D.atKey (.int .i64 l[p]) z = .lit (.int .i64 (st0.f2 + (pos (L.map (obAt st0.f st0.os)) p : Int)))
  no : ∀ a, a ∉ l → Maps.has D (.int .i64 a) = false
  lens : os.map (fun o => o.fs.length) = (l.map (obAt st0.f st0.os)).map (fun o => o.fs.length)
  pre : l <+: L
  ord : Ord st0.f st0.os L
  size : 64 ≤ st0.size ∧ st0.size ≤ 65536
  half : st0.half = 0 ∨ st0.half = 1
/-- A memory on the way: the objects of l are moved, as os; L is what will be. -/
def Cq (B : Nat) (S : Nat → Prop) (w : World) (g : Nat) (st0 : St) (L l : List Int) (os : List O) : Prop := ∃ D, CqD B S w g st0 L l os D
theorem cw_new {f1 f : Int} {os : List O} {L l : List Int} {x : Int} (ho : Ord f os L) (hx : ¬ x % 2 = 1) (h : l ++ [x / 2] <+: L) : cw f1 f os L x = 2 * (f1 + ((flat (l.map (obAt f os))).length : Int)) := by
  obtain ⟨t, rfl⟩ := h
  have hnd := ho.nd
  unfold cw
  rw [if_neg hx]
  have hi : List.idxOf (x / 2) ((l ++ [x / 2]) ++ t) = l.length := by
    have hl : l.length < ((l ++ [x / 2]) ++ t).length := by simp
    have := hnd.idxOf_getElem l.length hl
    simpa using this
  rw [hi, List.map_append, List.map_append, List.append_assoc]
  congr 3
  unfold pos
  rw [List.take_left' (by simp)]
theorem cw_old {f1 f : Int} {os : List O} {L : List Int} {x : Int} (ho : Ord f os L) (hx : ¬ x % 2 = 1) (p : Nat) (hp : p < L.length) (h : L[p] = x / 2) : cw f1 f os L x = 2 * (f1 + (pos (L.map (obAt f os)) p : Int)) := by
  unfold cw
  rw [if_neg hx, ← h, ho.nd.idxOf_getElem p hp]
theorem ptr_f {a : Int} (h : 1 ≤ a ∧ a ≤ 300000) : Pa.num_Ptr.f a = some (2 * a) := by
  unfold Pa.num_Ptr.f
  rw [if_neg (by omega), if_neg (by omega), IntKind.wrap_u64, IntKind.wrap_u64]
  congr 1
  omega
theorem add1_odd {f : Int} {os : List O} {l : List Int} {x : Int} (h : x % 2 = 1) : add1 f os l x = some l := if_pos h
theorem add1_even {f : Int} {os : List O} {l l2 : List Int} {x : Int} (h : ¬ x % 2 = 1) (e : add1 f os l x = some l2) : x / 2 ∈ heads f os ∧ ((x / 2 ∈ l ∧ l2 = l) ∨ (x / 2 ∉ l ∧ l2 = l ++ [x / 2])) := by
  unfold add1 at e
  rw [if_neg h] at e
  by_cases h2 : x / 2 ∈ heads f os
  · rw [if_pos h2] at e
    refine ⟨h2, ?_⟩
    by_cases h3 : x / 2 ∈ l
    · rw [if_pos h3] at e; exact .inl ⟨h3, (Option.some.inj e).symm⟩
    · rw [if_neg h3] at e; exact .inr ⟨h3, (Option.some.inj e).symm⟩
  · rw [if_neg h2] at e; cases e
theorem Cq.more {st0 : St} {L l : List Int} {os : List O} (C : Cq B S w g st0 L l os) {T : Nat → Prop} (h : ∀ k, S k → T k) : Cq B T w g st0 L l os := by
  obtain ⟨D, C⟩ := C
  exact ⟨D, C.mem.more h, C.isMap, C.yes, C.no, C.lens, C.pre, C.ord, C.size, C.half⟩
theorem Cq.keep {st0 : St} {L l : List Int} {os : List O} (C : Cq B S w g st0 L l os) {T : Nat → Prop} (fr : Fr T w w') (h : ∀ k, S k → ¬ T k) : Cq B S w' g st0 L l os := by
  obtain ⟨D, C⟩ := C
  exact ⟨D, C.mem.keep fr h, C.isMap, C.yes, C.no, C.lens, C.pre, C.ord, C.size, C.half⟩
theorem Cq.drawn {st0 : St} {L l : List Int} {os : List O} (C : Cq B S w g st0 L l os) (hd : Drawn0 w w') : Cq B S w' g st0 L l os := C.keep (T := fun _ => False) (Fr.of_drawn hd) (fun _ _ h => h)
/-- One object goes, or has gone. -/
theorem Cq.move {st0 : St} {L l l2 : List Int} {os : List O} {x : Int} (C : Cq B S w g st0 L l os) (hx : ¬ x % 2 = 1) (hadd : add1 st0.f st0.os l x = some l2) (hp2 : l2 <+: L) :
    Calls Try.prog 53 #[.pointer (some ⟨g, 0, none⟩), .int .i64 (x / 2)] w fun e w' => ∃ T : Int, e = .returned (.tuple #[.int .i64 T, .int .i64 0]) ∧ cw st0.f2 st0.f st0.os L x = 2 * T ∧ 1 ≤ T ∧ T ≤ 300000 ∧
      Cq B (fun k => S k ∨ w.heap.size ≤ k) w' g st0 L l2 (os ++ (l2.drop l.length).map (obAt st0.f st0.os)) ∧ Fr S w w' := by
  obtain ⟨D, C⟩ := C
  obtain ⟨ha, hc⟩ := add1_even hx hadd
  obtain ⟨i, hi, hai⟩ := mem_heads.1 ha
  have hfb := C.mem.mem.fbound
  rw [cst_f] at hfb
  have hol : i < (cst st0 os D).olds.length := hi
  have hfl : (flat os).length = (flat (l.map (obAt st0.f st0.os))).length := by rw [flat_len, flat_len, C.lens]
  have hofit : ((flat st0.os).length : Int) ≤ st0.size := by
    obtain ⟨vw, vh, ow, oh, mb, n, LL⟩ := C.mem.mem
    exact LL.ofit
  have hfitL := ord_fit C.ord
  have hsz := C.size
  rcases hc with ⟨hm, rfl⟩ | ⟨hm, rfl⟩
  · obtain ⟨p, hp, hpe⟩ := List.mem_iff_getElem.1 hm
    have hpL : p < L.length := Nat.lt_of_lt_of_le hp C.pre.length_le
    have hcw := cw_old (f1 := st0.f2) C.ord hx p hpL ((prefix_get C.pre p hp hpL).trans hpe)
    obtain ⟨hy1, hy2⟩ := C.yes p hp
    rw [hpe, hai] at hy1 hy2
    have hmv := C.mem.mem.move_old i hol (st0.f2 + (pos (L.map (obAt st0.f st0.os)) p : Int)) (by rw [cst_f2]; exact hy1) (by rw [cst_f2]; exact hy2 _)
    rw [cst_f2, ← show x / 2 = st0.f + (pos (cst st0 os D).olds i : Int) from hai] at hmv
    refine hmv.mono ?_
    rintro e w1 ⟨rfl, hd⟩
    have hpp := pos_mono (L.map (obAt st0.f st0.os)) p (by rw [List.length_map]; omega)
    refine ⟨_, rfl, hcw, by omega, by omega, ?_, Fr.of_drawn hd⟩
    rw [List.drop_length, List.map_nil, List.append_nil]
    exact (Cq.drawn ⟨D, C⟩ hd).more (fun k h => .inl h)
  · have hcw := cw_new (f1 := st0.f2) C.ord hx hp2
    have hno := C.no _ hm
    have hl2 : Ord st0.f st0.os (l ++ [x / 2]) := by
      obtain ⟨t, e⟩ := hp2
      have h1 := C.ord.nd
      rw [← e] at h1
      refine ⟨(List.nodup_append.1 h1).1, fun a h => C.ord.sub a ?_⟩
      rw [← e]
      exact List.mem_append_left _ h
    have hfit2 := ord_fit hl2
    have hob : obAt st0.f st0.os (x / 2) = st0.os[i] := by rw [hai]; exact obAt_at _ _ i hi
    have hfl2 : (flat ((l ++ [x / 2]).map (obAt st0.f st0.os))).length = (flat (l.map (obAt st0.f st0.os))).length + st0.os[i].fs.length + 1 := by
      rw [List.map_append, flat_append, List.length_append, List.map_cons, List.map_nil, flat_one, hob, row_length]; omega
    have hmv := C.mem.move i hol (by rw [cst_f2, ← show x / 2 = st0.f + (pos (cst st0 os D).olds i : Int) from hai]; exact hno) (by
      show ((flat os).length : Int) + st0.os[i].fs.length + 1 ≤ st0.size
      omega)
    rw [cst_f2, cst_f, ← show x / 2 = st0.f + (pos (cst st0 os D).olds i : Int) from hai] at hmv
    refine hmv.mono ?_
    rintro e w1 ⟨rfl, hM, hF⟩
    have hdr : ((l ++ [x / 2]).drop l.length).map (obAt st0.f st0.os) = [st0.os[i]] := by rw [List.drop_left, List.map_cons, List.map_nil, hob]
    rw [hdr]
    refine ⟨_, rfl, ?_, ?_, ?_, ⟨D.put (.int .i64 (x / 2)) (.lit (.int .i64 (st0.f2 + ((flat os).length : Int)))), ⟨hM, ?_, ?_, ?_, ?_, ?_, C.ord, C.size, C.half⟩⟩, hF⟩
    · rw [hcw, ← hfl]; rfl
    · show 1 ≤ st0.f2 + ((flat os).length : Int); omega
    · show st0.f2 + ((flat os).length : Int) ≤ 300000; omega
    · exact C.isMap.put _ _
    · intro p hp
      have hlit : WideAt.IsKeyLit (Lit.int .i64 (x / 2)) := by first | exact trivial | exact .inl ⟨_, _, rfl⟩ | simp [WideAt.IsKeyLit]
      by_cases e : p = l.length
      · subst e
        have e2 : (l ++ [x / 2])[l.length] = x / 2 := by simp
        rw [e2]
        refine ⟨Maps.has_put_same C.isMap hlit _, fun z => ?_⟩
        rw [Maps.atKey_put_same C.isMap hlit]
        have e3 : pos (L.map (obAt st0.f st0.os)) l.length = (flat os).length := by
          rw [pos_map_pre _ hp2 _ (by simp), hfl, List.map_append]
          unfold pos
          rw [List.take_left' (by simp)]
        rw [e3]
      · have hp' : p < l.length := by simp at hp; omega
        have e2 : (l ++ [x / 2])[p] = l[p] := List.getElem_append_left hp'
        have hne : l[p] ≠ x / 2 := fun e => hm (e ▸ List.getElem_mem hp')
        have hne2 : Lit.int .i64 l[p] ≠ Lit.int .i64 (x / 2) := fun e => by injection e with _ e; exact hne e
        rw [e2]
        obtain ⟨h1, h2⟩ := C.yes p hp'
        exact ⟨(Maps.has_put_other hne2 _).trans h1, fun z => (Maps.atKey_put_other hne2 _ z).trans (h2 z)⟩
    · intro a ha2
      rw [List.mem_append, List.mem_singleton, not_or] at ha2
      have hne2 : Lit.int .i64 a ≠ Lit.int .i64 (x / 2) := fun e => by injection e with _ e; exact ha2.2 e
      exact (Maps.has_put_other hne2 _).trans (C.no a ha2.1)
    · rw [List.map_append, List.map_append, List.map_append, C.lens, List.map_cons, List.map_cons, List.map_nil, List.map_nil, List.map_cons, List.map_nil, hob]
    · exact hp2
set_option maxHeartbeats 4000000 in
theorem moved_any {st0 : St} {L l l2 : List Int} {os : List O} {x : Int} (C : Cq B S w g st0 L l os) (hxr : 0 ≤ x ∧ x < 18446744073709551616) (hadd : add1 st0.f st0.os l x = some l2) (hp2 : l2 <+: L)
    (b : Nat) (hb : w.heap[b]? = some (.cells #[.pointer (some ⟨g, 0, none⟩)] 26 (0, 0))) (hS : ¬ S b) :
    Calls Try.prog 51 #[.int .u64 x, .pointer (some ⟨b, 0, none⟩)] w fun e w' => e = .returned (.int .u64 (cw st0.f2 st0.f st0.os L x)) ∧
      Cq B (fun k => S k ∨ w.heap.size ≤ k) w' g st0 L l2 (os ++ (l2.drop l.length).map (obAt st0.f st0.os)) ∧ Fr S w w' := by
  have hI := fun W => Pa.num_IsInt.calls x (x % 2 == 1) W (isInt_f hxr)
  by_cases h1 : x % 2 = 1
  · have e1 : (x % 2 == 1) = true := beq_iff_eq.2 h1
    rw [e1] at hI
    have hcw : cw st0.f2 st0.f st0.os L x = x := if_pos h1
    have hl : l = l2 := by rw [add1_odd h1] at hadd; exact Option.some.inj hadd
    subst hl
    rw [hcw]
    go_enter Try.func51, Try.ntmps51
    go_wp2_with (first | (go_at_call 52; (with_reducible refine (hI _).mono ?_); rintro e w1 ⟨rfl, hd1⟩))
    go_ret
    refine ⟨rfl, ?_, Fr.of_drawn hd1⟩
    rw [List.drop_length, List.map_nil, List.append_nil]
    exact (C.drawn hd1).more (fun k h => .inl h)
  · have e1 : (x % 2 == 1) = false := by simpa using h1
    rw [e1] at hI
    have hh := (add1_even h1 hadd).1
    have hT : ∀ W, Calls Try.prog 54 #[.int .u64 x] W fun e w' => e = .returned (.int .i64 (x / 2)) ∧ Drawn0 W w' := fun W => by
      have h := Pa.num_ToPtr.calls x (toP x) W (toP_f hxr)
      obtain ⟨i, hi, hai⟩ := mem_heads.1 hh
      obtain ⟨D, C'⟩ := C
      have hfb := C'.mem.mem.fbound
      have := pos_mono st0.os i (Nat.le_of_lt hi)
      have hof : ((flat st0.os).length : Int) ≤ st0.size := by
        obtain ⟨vw, vh, ow, oh, mb, n, LL⟩ := C'.mem.mem
        exact LL.ofit
      have hsz := C'.size
      have hff : 1 ≤ st0.f ∧ st0.f ≤ 200000 := by
        unfold St.f
        rcases C'.half with h | h <;> rw [h] <;> omega
      have hpe : toP x = x / 2 := by unfold toP; rw [if_pos (by omega)]
      rw [hpe] at h
      exact h
    have hM : ∀ W, Drawn0 w W → _ := fun W hd => (C.drawn hd).move h1 hadd hp2
    have hP : ∀ W (T : Int), 1 ≤ T → T ≤ 300000 → Calls Try.prog 55 #[.int .i64 T] W fun e w' => e = .returned (.int .u64 (2 * T)) ∧ Drawn0 W w' := fun W T hT1 hT2 => Pa.num_Ptr.calls T (2 * T) W (ptr_f ⟨hT1, hT2⟩)
    go_enter Try.func51, Try.ntmps51
    go_wp2_with (first | (go_at_call 52; (with_reducible refine (hI _).mono ?_); rintro e w1 ⟨rfl, hd1⟩))
    have hb1 := blk_below hb hd1.below
    have hc1 : w1.cell? ⟨b, 0, none⟩ = some (.pointer (some ⟨g, 0, none⟩)) := (blk_cell hb1 0).trans rfl
    have hcd : w1.drew.cell? ⟨b, 0, none⟩ = some (.pointer (some ⟨g, 0, none⟩)) := hc1
    have hdd : Drawn0 w w1.drew := drawn_trans hd1 ⟨1, rfl⟩
    go_region_held3 (fun W' => W'.cell? ⟨b, 0, none⟩ = some (.pointer (some ⟨g, 0, none⟩)))
      (first | with_reducible exact hc1 | with_reducible exact hcd | with_reducible exact hc2 | with_reducible exact hc3)
      (first
        | (go_at_call 54; (with_reducible refine Calls.mono (hT _) ?_); rintro e w2 ⟨rfl, hd2⟩; have hw2 := drawn_trans hdd hd2; have hc2 : w2.cell? ⟨b, 0, none⟩ = some (.pointer (some ⟨g, 0, none⟩)) := (blk_cell (blk_below hb hw2.below) 0).trans rfl)
        | (go_at_call 53; (with_reducible refine Calls.mono (hM _ hw2) ?_); rintro e w3 ⟨T, rfl, hcw, hT1, hT2, hC3, hF3⟩; have hc3 : w3.cell? ⟨b, 0, none⟩ = some (.pointer (some ⟨g, 0, none⟩)) := (blk_cell ((hF3.same b (blk_lt (blk_below hb hw2.below)) hS).trans (blk_below hb hw2.below)) 0).trans rfl))
    go_wp2_with (first | (go_at_call 55; (with_reducible refine (hP _ T hT1 hT2).mono ?_); rintro e w4 ⟨rfl, hd4⟩))
    go_ret
    rw [hcw]
    refine ⟨rfl, (hC3.drawn hd4).more (fun k h => h.imp id (fun h => Nat.le_trans hw2.below.size h)), ((Fr.of_drawn hw2).trans hF3).trans (Fr.of_drawn hd4)⟩
end Go.Proofs.Ytjccaojlldkmpaa.Mem
