/- A store changes one field alone: the walk of the law MemApart. -/
import Derived.Test.YtaliolnndbnfhaaHolds
namespace Go.Proofs.Ytaliolnndbnfhaa.Mem
open Go.RowKit Go.Proofs.YtaliolnndbnfhaaW.PrintWords Go.Proofs.YtaliolnndbnfhaaW.PrintLast Go.Proofs.YtaliolnndbnfhaaW.PrintMore
open Hf (rightB hdr headOf partsOf w64_of)
set_option linter.unusedSimpArgs false
set_option linter.unusedVariables false
theorem fillO_val (i n j : Nat) (h : j < n) : (fillO i n).fs.getD j 0 = ((100 * i + j : Nat) : Int) := by
  simp [fillO, partO, List.getD, h]
theorem fillO_len (i n : Nat) : (fillO i n).fs.length = n := partO_len _ _ _ (Nat.le_refl _)
theorem fill_len (ns : List Nat) (i : Nat) (h : i < (fillOs ns).length) (h' : i < ns.length) : (fillOs ns)[i].fs.length = ns[i] := by rw [fillOs_get ns i h h', fillO_len]
theorem put_len (ns : List Nat) (i k : Nat) (v : Int) (m : Nat) (h : m < (putO (fillOs ns) i k v).length) (h' : m < ns.length) : (putO (fillOs ns) i k v)[m].fs.length = ns[m] := by
  have hl := fillOs_length ns
  rw [putO_get _ _ _ _ m h (by omega)]
  split
  · rw [put_length, fill_len ns m (by omega) h']
  · rw [fill_len ns m (by omega) h']
theorem put_val (ns : List Nat) (i k : Nat) (v : Int) (m j : Nat) (h : m < (putO (fillOs ns) i k v).length) (h' : m < ns.length) (hj : j < ns[m]) :
    (putO (fillOs ns) i k v)[m].fs.getD j 0 = if m = i ∧ j = k then v else ((100 * m + j : Nat) : Int) := by
  have hl := fillOs_length ns
  have hlen := fillO_len m ns[m]
  have hval := fillO_val m ns[m] j hj
  rw [putO_get _ _ _ _ m h (by omega), fillOs_get ns m (by omega) h']
  by_cases e : i = m
  · subst e
    rw [if_pos rfl]
    show ((fillO i ns[i]).fs.set k v).getD j 0 = _
    by_cases e2 : j = k
    · subst e2
      rw [if_pos ⟨rfl, rfl⟩, List.getD, List.getElem?_set_self (by omega)]
      rfl
    · rw [if_neg (fun h => e2 h.2), List.getD, List.getElem?_set_ne (fun h => e2 h.symm)]
      exact hval
  · rw [if_neg e, if_neg (fun h => e h.1.symm)]
    exact hval
theorem lensI_fill (ns : List Nat) : lensI (fillOs ns) = ints ns := by
  apply List.ext_getElem
  · simp [lensI, ints, fillOs_length]
  · intro i h1 h2
    have h3 : i < ns.length := by simpa [ints] using h2
    have h4 : i < (fillOs ns).length := by rw [fillOs_length]; exact h3
    simp only [lensI, ints, List.getElem_map]
    rw [fill_len ns i h4 h3]
theorem lensI_put (ns : List Nat) (i k : Nat) (v : Int) : lensI (putO (fillOs ns) i k v) = ints ns := by
  rw [← lensI_fill]
  unfold lensI
  have := congrArg (List.map (fun (n : Nat) => (n : Int))) (lens_put (fillOs ns) i k v)
  simpa [List.map_map, Function.comp_def] using this
set_option maxHeartbeats 8000000 in
set_option maxRecDepth 100000 in
theorem apart_any (a0 : Int) (A : Option Addr) (c : Nat) (row : List Int) (a2 a3 v : Int) (w : World) (hC : Kd.C (Kd.int .i64) w A row.length row) (hc : row.length ≤ c) (hv : 0 ≤ v ∧ v < 18446744073709551616) :
    Calls Try.prog 6 #[.int .i64 a0, .slice A row.length c, .int .i64 a2, .int .i64 a3, .int .u64 v] w fun e w' => e = .returned (.bool true) ∧ Below w.heap.size w w' := by
  go_enter Try.func6, Try.ntmps6
  go_wp2_with (first
    | (go_at_call 23; (with_reducible refine (filled_any a0 A c row _ hC hc).mono ?_); rintro e w1 ⟨g, W, ns, va, vs, rfl, G, F⟩
       have hal := heads_length 1 (fillOs ns)
       have hll := fillOs_length ns
       obtain ⟨Aa, ca, rfl⟩ := Kd.R_slice F.ra
       obtain ⟨As, cs, rfl⟩ := Kd.R_slice F.rs
       have hil : (ints ns).length = ns.length := by simp [ints]
       rw [hal, hll, hil] at F ⊢
       have hM := G.many
       refine Hid.out ?_))
  unfold Hid
  by_cases h0 : ns.length = 0
  · have z0 : ((ns.length : Int) == 0) = true := by rw [h0]; rfl
    rw [h0] at F ⊢
    go_wp2_with (first
      | (go_at_call 18; (with_reducible refine (known_any _).mono ?_); rintro e w6 ⟨rfl, hB6⟩))
    go_ret
    exact ⟨rfl, F.one.end_ hB6⟩
  · have z0 : ((ns.length : Int) == 0) = false := beq_eq_false_iff_ne.2 (by omega)
    obtain ⟨i, hi, hil1⟩ := among_f a2 (ns.length : Int) (by omega) (by omega)
    have hin : i < ns.length := by omega
    have hn8 := G.each _ (List.getElem_mem hin)
    obtain ⟨N, hN⟩ : ∃ N : Nat, ns[i] = N := ⟨_, rfl⟩
    rw [hN] at hn8
    obtain ⟨k, hk, hkl⟩ := among_f a3 (N : Int) (by omega) (by omega)
    have hkN : k < N := by omega
    obtain ⟨ga, ca', ea, -⟩ := Kd.R_form F.ra (by omega)
    obtain ⟨gs, cs', es, -⟩ := Kd.R_form F.rs (by omega)
    injection ea with ea1 ea2 ea3
    injection es with es1 es2 es3
    subst ea1 es1
    clear ea2 ea3 es2 es3
    have hi0 : decide (0 ≤ (i : Int)) = true := decide_eq_true (by omega)
    have hi1 : decide ((i : Int) < (ns.length : Int)) = true := decide_eq_true (by omega)
    obtain ⟨AD, hAD⟩ : ∃ AD : Int, 1 + (pos (fillOs ns) i : Int) = AD := ⟨_, rfl⟩
    obtain ⟨P, hP⟩ : ∃ P : Nat, (flat (fillOs ns)).length = P := ⟨_, rfl⟩
    have cellA : ∀ W', Hs W' (.slice (some ⟨ga, 0, none⟩) ns.length ca) (heads 1 (fillOs ns)) → W'.cell? ⟨ga, i, none⟩ = some (.int .i64 AD) := fun W' h => by
      have := (Kd.R_celln (0 : Int) h (i : Int) (by omega) (by omega)).1
      rw [heads_getD 1 _ i (by omega), Int.toNat_natCast, hAD] at this
      exact this
    have cellS : ∀ W', Hs W' (.slice (some ⟨gs, 0, none⟩) ns.length cs) (ints ns) → W'.cell? ⟨gs, i, none⟩ = some (.int .i64 (N : Int)) := fun W' h => by
      have := (Kd.R_celln (0 : Int) h (i : Int) (by omega) (by omega)).1
      rw [ints_get ns i hin, Int.toNat_natCast, hN] at this
      exact this
    have q1 := cellA _ F.ra
    have q2 := cellS _ F.rs
    go_wp2_with (first
      | (go_at_call 19; (with_reducible refine (among_any a2 (ns.length : Int) i _ hi).mono ?_); rintro e w2 ⟨rfl, hd2⟩
         have F2 := F.drawn hd2
         have q3 := cellA _ F2.ra
         have q4 := cellS _ F2.rs
         clear F)
      | (go_at_call 19; (with_reducible refine (among_any a3 (N : Int) k _ hk).mono ?_); rintro e w3 ⟨rfl, hd3⟩
         have F3 := F2.drawn hd3
         have q5 := cellA _ F3.ra
         have q6 := cellS _ F3.rs
         have hNx : Calls Try.prog 24 #[.pointer (some ⟨g, 0, none⟩)] w3 fun e w' => e = .returned (.int .i64 (1 + (P : Int))) ∧ Drawn0 w3 w' := (F3.one.2.next).mono (fun e w' h => ⟨h.1.trans (congrArg (fun z => Ending.returned (.int .i64 z)) (by rw [stF_f, show ((flat (stF W ns).os).length : Int) = (P : Int) from congrArg (fun (z : Nat) => (z : Int)) hP])), h.2⟩)
         clear F2)
      | (go_at_call 24; (with_reducible refine hNx.mono ?_); clear hNx; rintro e w4 ⟨rfl, hd4⟩
         have F4 := F3.drawn hd4
         have q7 := cellA _ F4.ra
         have q8 := cellS _ F4.rs
         have hS : Calls Try.prog 25 #[.pointer (some ⟨g, 0, none⟩), .int .i64 AD, .int .i64 k, .int .u64 v] w4 fun e w' => e = .returned (.int .i64 0) ∧ Fil w w' g { stF W ns with os := putO (fillOs ns) i k v } (.slice (some ⟨ga, 0, none⟩) ns.length ca) (.slice (some ⟨gs, 0, none⟩) ns.length cs) (heads 1 (fillOs ns)) (ints ns) := by
           have := F4.store i k v (by show i < (fillOs ns).length; omega) (by show k < (fillOs ns)[i].fs.length; rw [fill_len ns i (by omega) hin]; omega) hv
           rw [stF_f, show (1 : Int) + (pos (stF W ns).os i : Int) = AD from hAD] at this
           exact this
         clear F3)
      | (go_at_call 25; (with_reducible refine hS.mono ?_); clear hS; rintro e w5 ⟨rfl, F5⟩
         have q9 := cellA _ F5.ra
         have q10 := cellS _ F5.rs
         clear F4; refine Hid.out ?_))
    unfold Hid
    have hlp : (putO (fillOs ns) i k v).length = ns.length := by rw [putO_length, hll]
    have hposp : ∀ m, pos (putO (fillOs ns) i k v) m = pos (fillOs ns) m := fun m => pos_lens (lens_put (fillOs ns) i k v) m
    obtain ⟨st1, hst1⟩ : ∃ st1 : St, st1 = { stF W ns with os := putO (fillOs ns) i k v } := ⟨_, rfl⟩
    have hf1 : st1.f = 1 := by rw [hst1]; exact stF_f W ns
    have hos1 : st1.os = putO (fillOs ns) i k v := by rw [hst1]
    have hfl1 : ((flat st1.os).length : Int) = (P : Int) := by rw [hos1, putO_lens_len, hP]
    have loadI : ∀ W', Fil w W' g st1 (.slice (some ⟨ga, 0, none⟩) ns.length ca) (.slice (some ⟨gs, 0, none⟩) ns.length cs) (heads 1 (fillOs ns)) (ints ns) → ∀ q : Nat, q < N → Calls Try.prog 26 #[.pointer (some ⟨g, 0, none⟩), .int .i64 AD, .int .i64 q] W' fun e w' => e = .returned (.tuple #[.int .u64 (if q = k then v else ((100 * i + q : Nat) : Int)), .int .i64 0]) ∧ Drawn0 W' w' := by
      intro W' F' q hq
      have hio : i < st1.os.length := by rw [hos1, hlp]; exact hin
      have hlen : st1.os[i].fs.length = N := by simp only [hos1]; rw [put_len ns i k v i (by omega) hin, hN]
      have := F'.one.2.load i q hio (by omega)
      have hval : st1.os[i].fs.getD q 0 = if q = k then v else ((100 * i + q : Nat) : Int) := by
        simp only [hos1]
        rw [put_val ns i k v i q (by omega) hin (by omega)]
        simp
      rw [hf1, hval, show (1 : Int) + (pos st1.os i : Int) = AD by rw [hos1, hposp]; exact hAD] at this
      exact this
    rw [← hst1] at F5
    have hL := loadI _ F5 k hkN
    rw [if_pos rfl] at hL
    go_wp2_with (first
      | (go_at_call 26; (with_reducible refine hL.mono ?_); clear hL; rintro e w6 ⟨rfl, hd6⟩
         have F6 := F5.drawn hd6))
    go_loopw [20] (fun j wr => ∃ q : Nat, j = .int .i64 q ∧ q ≤ N ∧ Fil w wr g st1 (.slice (some ⟨ga, 0, none⟩) ns.length ca) (.slice (some ⟨gs, 0, none⟩) ns.length cs) (heads 1 (fillOs ns)) (ints ns)) (fun j _ => N - (intOf j).toNat)
    case atStart => exact ⟨0, rfl, Nat.zero_le _, F6⟩
    case round =>
      clear F6 F5 q1 q2 q3 q4 q5 q6 q7 q8 q9 q10
      obtain ⟨q, rfl, hq, F7⟩ := hrel
      have q1 := cellA _ F7.ra
      have q2 := cellS _ F7.rs
      by_cases hqN : q < N
      · have t2 : decide ((q : Int) < (N : Int)) = true := decide_eq_true (by omega)
        have hL := loadI _ F7 q hqN
        obtain ⟨V, hV⟩ : ∃ V : Nat, 100 * i + q = V := ⟨_, rfl⟩
        have hU : 100 * (i : Int) + (q : Int) = (V : Int) := by omega
        have hU2 : (V : Int) % 18446744073709551616 = (V : Int) := by omega
        rw [hV] at hL
        by_cases hqk : q = k
        · subst hqk
          rw [if_pos rfl] at hL
          have t3 : ((q : Int) != (q : Int)) = false := by simp
          go_wp2_with (first
            | (go_at_call 26; (with_reducible refine hL.mono ?_); clear hL; rintro e w8 ⟨rfl, hd8⟩
               have F8 := F7.drawn hd8))
          go_roundw
          case rel => exact ⟨q + 1, by simp, by omega, F8⟩
          case measure => simp [intOf]; omega
        · rw [if_neg hqk] at hL
          have t3 : ((q : Int) != (k : Int)) = true := bne_iff_ne.2 (by omega)
          have t4 : ((V : Int) != (V : Int)) = false := by simp
          go_wp2_with (first
            | (go_at_call 26; (with_reducible refine hL.mono ?_); clear hL; rintro e w8 ⟨rfl, hd8⟩
               have F8 := F7.drawn hd8))
          go_roundw
          case rel => exact ⟨q + 1, by simp, by omega, F8⟩
          case measure => simp [intOf]; omega
      · have t2 : decide ((q : Int) < (N : Int)) = false := decide_eq_false (by omega)
        have t5 : ((1 + (P : Int)) == (1 + (P : Int))) = true := by simp
        have t6 : (v == v) = true := by simp
        have hNx : Calls Try.prog 24 #[.pointer (some ⟨g, 0, none⟩)] wr fun e w' => e = .returned (.int .i64 (1 + (P : Int))) ∧ Drawn0 wr w' := (F7.one.2.next).mono (fun e w' h => ⟨h.1.trans (congrArg (fun z => Ending.returned (.int .i64 z)) (by rw [hf1, hfl1])), h.2⟩)
        go_wp2_with (first
          | (go_at_call 24; (with_reducible refine hNx.mono ?_); clear hNx; rintro e w9 ⟨rfl, hd9⟩
             have F9 := F7.drawn hd9
             have hHo : Calls Try.prog 27 #[.pointer (some ⟨g, 0, none⟩), .slice (some ⟨ga, 0, none⟩) ns.length ca, .slice (some ⟨gs, 0, none⟩) ns.length cs, .int .i64 i] w9 fun e w' => e = .returned (.bool true) ∧ Drawn0 w9 w' := by
               refine holds_any F9.one.2 _ _ ca cs ns.length (i : Int) ?_ ?_ ?_ hM ?_ ?_
               · rw [hf1, hos1, heads_lens 1 (lens_put (fillOs ns) i k v)]; exact F9.ra
               · rw [hos1, lensI_put]; exact F9.rs
               · rw [hos1, hlp]
               · intro m hm
                 simp only [hos1] at hm ⊢
                 rw [put_len ns i k v m hm (by omega)]
                 exact (G.each _ (List.getElem_mem _)).2
               · intro m j hm hj hne
                 simp only [hos1] at hm hj ⊢
                 rw [put_len ns i k v m hm (by omega)] at hj
                 rw [put_val ns i k v m j hm (by omega) hj, if_neg (by omega)])
          | (go_at_call 27; (with_reducible refine hHo.mono ?_); clear hHo; rintro e w10 ⟨rfl, hd10⟩
             have F10 := F9.drawn hd10)
          | (go_at_call 18; (with_reducible refine (known_any _).mono ?_); rintro e w11 ⟨rfl, hB11⟩))
        go_ret
        exact ⟨rfl, F10.one.end_ hB11⟩
theorem wf_u64 {n : Int} (h : (Lit.int .u64 n).wf = true) : 0 ≤ n ∧ n < 18446744073709551616 := by
  have h : 0 ≤ n ∧ n ≤ 18446744073709551615 := by simpa [Lit.wf, IntKind.min, IntKind.max, IntKind.signed, IntKind.bits] using h
  omega
theorem apart_walk (a0 : Int) (a1 : Option Addr) (len1 cap1 : Nat) (z1 : List Int) (a2 a3 a4 : Int) (w : World) (_ : (Lit.int .i64 a0).wf = true)
    (w1 : (a1 = none ∧ len1 = 0 ∧ cap1 = 0 ∧ z1 = []) ∨ ∃ x, a1 = some x ∧ len1 ≤ cap1 ∧ cap1 ≤ maxLen ∧ z1.length = cap1 ∧ (∀ i, i < z1.length → w.cell? (x.add i) = some (.int .i64 (z1.getD i 0))) ∧ ∀ n ∈ z1, (Lit.int .i64 n).wf = true) (y1 : len1 * 8 ≤ 140737488351232)
    (_ : (Lit.int .i64 a2).wf = true) (_ : (Lit.int .i64 a3).wf = true) (w4 : (Lit.int .u64 a4).wf = true) :
    Calls Try.prog 6 #[.int .i64 a0, .slice a1 len1 cap1, .int .i64 a2, .int .i64 a3, .int .u64 a4] w fun e w' => e = .returned (.bool true) ∧ Below w.heap.size w w' := by
  obtain ⟨l1, rfl, hr1, hm1, hw1, hc1⟩ := ReadsInt.ofRowC w1
  exact apart_any a0 a1 cap1 l1 a2 a3 a4 w (Kd.C_of_reads (d := (0 : Int)) (h1 := fun _ => rfl) hr1) hc1 (wf_u64 w4)
end Go.Proofs.Ytaliolnndbnfhaa.Mem
