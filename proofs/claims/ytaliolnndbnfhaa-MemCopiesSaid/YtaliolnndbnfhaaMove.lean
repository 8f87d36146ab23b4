/- What Move does: an object of the old half goes behind those in use, or is where it went. -/
import Derived.Test.YtaliolnndbnfhaaTwice
import Derived.Maps.OwnOps
namespace Go.Proofs.Ytaliolnndbnfhaa.Mem
open Go.RowKit Go.Proofs.YtaliolnndbnfhaaW.PrintWords Go.Proofs.YtaliolnndbnfhaaW.PrintLast Go.Proofs.YtaliolnndbnfhaaW.PrintMore
open Hf (rightB hdr headOf partsOf w64_of)
set_option linter.unusedSimpArgs false
set_option linter.unusedVariables false
variable {S : Nat → Prop} {w w' w0 : World} {g mb n : Nat} {st : St} {va vs vw vh ow oh : Value} {ads ss : List Int}
theorem wf_i64 {n : Int} (h : -9223372036854775808 ≤ n ∧ n ≤ 9223372036854775807) : (Lit.int .i64 n).wf = true := by
  simpa [Lit.wf, IntKind.min, IntKind.max, IntKind.signed, IntKind.bits] using h
theorem zero3 (W : World) : (zeroValue 3).run Try.prog W = .ok (.int .i64 0) W := by
  first
  | rfl
  | kernel_rfl
theorem put_half {size half f f2 : Int} {mv : Value} {os : List O} {e : Ending} (o : O) (ho : o.ok) (H : Half w g size half f f2 ow oh mv vw vh os) (hfl : (flat os).length + o.fs.length + 1 ≤ 65536)
    (h : PutPost w g size half f f2 ow oh mv vw vh (flat os) (heads f os) o.row e w') :
    e = .returned (.int .i64 (f + ((flat os).length : Int))) ∧ ∃ vw' vh', Half w' g size half f f2 ow oh mv vw' vh' (os ++ [o]) ∧ At w vw vw' ∧ At w vh vh' ∧ Fr (fun k => k = g ∨ vw.ownBlock = some k ∨ vh.ownBlock = some k) w w' := by
  obtain ⟨he, vw', vh', h1, h2, h3, h4, h5, h6⟩ := h
  have hflat : flat (os ++ [o]) = flat os ++ o.row := by rw [flat_append, flat_one]
  refine ⟨he, vw', vh', ⟨h1, by rw [hflat]; exact h2, by rw [heads_append]; exact h3, fun x hx => ?_, H.hf, ?_⟩, h4, h5, h6⟩
  · rw [List.mem_append, List.mem_singleton] at hx
    rcases hx with hx | rfl
    · exact H.ok x hx
    · exact ho
  · rw [hflat, List.length_append, row_length]; omega
theorem Lie.mapped (L : Lie S w g st vw vh ow oh mb n) {D' : DataW Unit} {n' : Nat} (hown : w'.ownsMap Try.prog 3 (plainElem Try.prog 3) mb n' D') (hg : w.grownBy w' (some mb)) (hn : n' ≤ st.os.length) : Lie S w' g { st with mvd := D' } vw vh ow oh mb n' := by
  have fr : Fr (fun k => k = mb) w w' := Fr.of_grown hg (fun k e => by cases e; rfl)
  have noW : ∀ {v : Value} {xs : List Int}, Ws w v xs → ∀ k, v.ownBlock = some k → ¬ k = mb := fun h k hk e => by
    obtain ⟨cs, h1⟩ := Kd.R_typed h k hk
    exact map_ne L.map h1 e.symm
  have noH : ∀ {v : Value} {xs : List Int}, Hs w v xs → ∀ k, v.ownBlock = some k → ¬ k = mb := fun h k hk e => by
    obtain ⟨cs, h1⟩ := Kd.R_typed h k hk
    exact map_ne L.map h1 e.symm
  exact
    { H := ⟨(fr.same g (blk_lt L.H.blk) (fun e => L.mb_g e.symm)).trans L.H.blk, keepW L.H.ws fr (noW L.H.ws), keepH L.H.hs fr (noH L.H.hs), L.H.ok, L.H.hf, L.H.hl⟩
      sz := L.sz
      hf := L.hf
      fit := L.fit
      ofit := L.ofit
      ows := keepW L.ows fr (noW L.ows)
      ohs := keepH L.ohs fr (noH L.ohs)
      ook := L.ook
      map := hown
      mn := hn
      apW := L.apW
      apH := L.apH
      s1 := L.s1
      s2 := L.s2
      s3 := L.s3
      s4 := L.s4
      s5 := L.s5
      s6 := L.s6 }
theorem Lie.old_yes (L : Lie S w g st vw vh ow oh mb n) (i : Nat) (hi : i < st.olds.length) :
    Calls Try.prog 44 #[.pointer (some ⟨g, 5, none⟩), .int .i64 (st.f2 + (pos st.olds i : Int))] w fun e w' => (∃ (gw c : Nat), ow = .slice (some ⟨gw, 0, none⟩) (flat st.olds).length c ∧ (flat st.olds).length ≤ c ∧ e = .returned (.slice (some ⟨gw, pos st.olds i, none⟩) (st.olds[i].fs.length + 1) (c - pos st.olds i))) ∧ Drawn0 w w' := by
  have hp := pos_head st.olds i hi
  have hf := ofs L
  have h1 := L.ofit
  have h2 := L.sz
  refine (L.old_at (st.f2 + (pos st.olds i : Int)) (by omega)).mono ?_
  rintro e w' ⟨h, h2⟩
  refine ⟨?_, h2⟩
  rcases h with ⟨i', gw, c, hi', he, hv, hcap, h3⟩ | ⟨hn, -⟩
  · obtain rfl : i = i' := pos_inj hi hi' (by omega)
    exact ⟨gw, c, hv, hcap, h3⟩
  · exact absurd rfl (hn.not hi)
/-- The words of an old object, read. -/
theorem Lie.old_row (L : Lie S w g st vw vh ow oh mb n) (i gw c : Nat) (hi : i < st.olds.length) (hv : ow = .slice (some ⟨gw, 0, none⟩) (flat st.olds).length c) (hc : (flat st.olds).length ≤ c) : (Kd.int .u64).C w (some ⟨gw, pos st.olds i, none⟩) (st.olds[i].fs.length + 1) st.olds[i].row := by
  have hp := pos_head st.olds i hi
  have hws := L.ows
  rw [hv] at hws
  have hC := Kd.C_mid (lo := pos st.olds i) (hi := pos st.olds i + (st.olds[i].fs.length + 1)) (c := c) (Kd.R_reads' hws).2.2 (by omega) (by omega) hc
  have hrow : ((flat st.olds).take (pos st.olds i + (st.olds[i].fs.length + 1))).drop (pos st.olds i) = st.olds[i].row := by
    rw [flat_at st.olds i hi]
    unfold pos
    rw [← List.append_assoc, List.take_left' (by rw [List.length_append, row_length]), List.drop_left' rfl]
  have hadd : (Option.map (fun x : Addr => x.add (pos st.olds i * (Kd.int .u64).sz)) (some ⟨gw, 0, none⟩)) = some ⟨gw, pos st.olds i, none⟩ := by
    show some (Addr.add ⟨gw, 0, none⟩ (pos st.olds i * 1)) = _
    by_cases h : pos st.olds i = 0 <;> simp [Addr.add, h]
  rw [hrow, if_neg (by omega), row_length, hadd] at hC
  exact hC
set_option maxHeartbeats 8000000 in
set_option maxRecDepth 100000 in
theorem IsMem.move (M : IsMem S w g st) (i : Nat) (hi : i < st.olds.length) (hno : Maps.has st.mvd (.int .i64 (st.f2 + (pos st.olds i : Int))) = false) (hroom : ((flat st.os).length : Int) + st.olds[i].fs.length + 1 ≤ st.size) :
    Calls Try.prog 32 #[.pointer (some ⟨g, 0, none⟩), .int .i64 (st.f2 + (pos st.olds i : Int))] w fun e w' => e = .returned (.tuple #[.int .i64 (st.f + ((flat st.os).length : Int)), .int .i64 0]) ∧
      IsMem (fun k => S k ∨ w.heap.size ≤ k) w' g { st with os := st.os ++ [st.olds[i]], mvd := st.mvd.put (.int .i64 (st.f2 + (pos st.olds i : Int))) (.lit (.int .i64 (st.f + ((flat st.os).length : Int)))) } ∧ Fr S w w' := by
  obtain ⟨vw, vh, ow, oh, mb, n, L⟩ := M
  have hp := pos_head st.olds i hi
  have hf2 := ofs L
  have hfit := L.ofit
  have hsz := L.sz
  have hf := L.H.hf
  have hl := L.H.hl
  have hll := len_le st.os
  obtain ⟨A, hA⟩ : ∃ A : Int, st.f2 + (pos st.olds i : Int) = A := ⟨_, rfl⟩
  have hAr : -9223372036854775808 ≤ A ∧ A ≤ 9223372036854775807 := by omega
  have hY := L.old_yes i hi
  rw [hA] at hno hY ⊢
  obtain ⟨N, hN⟩ : ∃ N : Nat, st.olds[i].fs.length = N := ⟨_, rfl⟩
  have hOk := L.ook _ (List.getElem_mem hi)
  obtain ⟨av, cv, rfl⟩ := Kd.R_slice L.H.ws
  obtain ⟨P, hP⟩ : ∃ P : Nat, (flat st.os).length = P := ⟨_, rfl⟩
  obtain ⟨T, hT⟩ : ∃ T : Int, st.f + (P : Int) = T := ⟨_, rfl⟩
  have hcell : w.cell? ⟨g, 8, none⟩ = some (.map (some mb)) := (blk_cell L.H.blk 8).trans rfl
  have hfr : decide ((N : Int) + 1 > st.size - (P : Int)) = false := decide_eq_false (by omega)
  have hN64 : (N : Int) ≤ 65536 := by omega
  go_enter Try.func32, Try.ntmps32
  go_wp2_with (first
    | (go_at_call 44; (with_reducible refine hY.mono ?_); clear hY; rintro e w1 ⟨⟨gw, c, hv, hcap, rfl⟩, hd1⟩
       have hne := slice_there ⟨gw, pos st.olds i, none⟩ (st.olds[i].fs.length + 1) (c - pos st.olds i)
       have L1 := L.keep (T := fun _ => False) (Fr.of_drawn hd1) (fun _ _ h => h)
       have hrow := L1.old_row i gw c hi hv hcap
       rw [hN] at hne hrow ⊢
       have hcell1 : w1.cell? ⟨g, 8, none⟩ = some (.map (some mb)) := (blk_cell L1.H.blk 8).trans rfl
       have hFr : Calls Try.prog 22 #[.pointer (some ⟨g, 0, none⟩)] w1 fun e w' => e = .returned (.int .i64 (st.size - (P : Int))) ∧ Drawn0 w1 w' := by
         have := L1.H.free (by omega) 0
         rw [hP] at this
         exact this)
    | (at_lookup; refine wpList_lookup_own_ok_int _ rfl (.tmp 23) (.tmp 24) 75 rfl 3 3 .i64 (Maps.int_keyed Try.underlying3) Try.underlying75 Try.underlying3 (zero3 _) mb n st.mvd rfl L1.map (.int .i64 A) (.int .i64 A) rfl (Maps.keyOf_int_mk Try.underlying3 (wf_i64 hAr)) ?_; intro cc hat hwfc; rw [hno])
    | (go_at_call 22; (with_reducible refine hFr.mono ?_); clear hFr; rintro e w2 ⟨rfl, hd2⟩
       have L2 := L1.keep (T := fun _ => False) (Fr.of_drawn hd2) (fun _ _ h => h)
       have hrow2 := L2.old_row i gw c hi hv hcap
       rw [hN] at hrow2
       have hPut := put_any w2 g st.size st.half st.f st.f2 ow oh (.map (some mb)) vh av _ cv (some ⟨gw, pos st.olds i, none⟩) (N + 1) (c - pos st.olds i) (flat st.os) (heads st.f st.os) st.olds[i].row hf hl (by omega) (by rw [heads_length]; omega) L2.H.blk L2.H.ws L2.H.hs hrow2)
    | (go_at_call 43; (with_reducible refine hPut.mono ?_); clear hPut; rintro e w3 h3
       obtain ⟨he, vw', vh', H3, aw, ah, fr3⟩ := put_half st.olds[i] hOk L2.H (by omega) h3
       rw [hP, hT] at he
       subst he
       have L3 := L2.now H3 aw ah fr3 (by rw [flat_append, flat_one, List.length_append, row_length]; omega) (by simp)
       have hcell3 : w3.cell? ⟨g, 8, none⟩ = some (.map (some mb)) := (blk_cell H3.blk 8).trans rfl
       have hfr3 := Fr.own L2 fr3)
    | (at_mapUpdate; refine wpList_mapUpdate_own _ rfl (.tmp 41) (.tmp 42) (.tmp 43) 75 rfl 3 3 (Maps.int_keyed Try.underlying3) Try.underlying75 _ mb n st.mvd rfl L3.map (by have := L.mn; simp only [maxLen]; omega) (.int .i64 A) (.int .i64 T) (.int .i64 A) rfl rfl (Maps.keyOf_int_mk Try.underlying3 (wf_i64 hAr)) (.lit (.int .i64 T)) [] (plainElem_int Try.underlying3 (wf_i64 (by omega))) ?_; intro w4 hown4 hg4))
  go_ret2
  have f1 : Fr S w w1 := Fr.of_drawn hd1
  have f2 : Fr S w1 w2 := Fr.of_drawn hd2
  have f4 : Fr S w3 w4 := Fr.of_grown hg4 (fun k e => by cases e; exact L.s2)
  rw [hP, hT]
  exact ⟨rfl, ⟨_, _, _, _, mb, n + 1, (L3.mapped hown4 hg4 (by have := L.mn; simp; omega)).more (fun k h => h.imp id (fun h => Nat.le_trans (f1.trans f2).low.size h))⟩, ((f1.trans f2).trans hfr3).trans f4⟩
set_option maxHeartbeats 8000000 in
set_option maxRecDepth 100000 in
theorem IsMem.move_old (M : IsMem S w g st) (i : Nat) (hi : i < st.olds.length) (T : Int) (hyes : Maps.has st.mvd (.int .i64 (st.f2 + (pos st.olds i : Int))) = true) (hT : st.mvd.atKey (.int .i64 (st.f2 + (pos st.olds i : Int))) (.lit (.int .i64 0)) = .lit (.int .i64 T)) :
    Calls Try.prog 32 #[.pointer (some ⟨g, 0, none⟩), .int .i64 (st.f2 + (pos st.olds i : Int))] w fun e w' => e = .returned (.tuple #[.int .i64 T, .int .i64 0]) ∧ Drawn0 w w' := by
  obtain ⟨vw, vh, ow, oh, mb, n, L⟩ := M
  have hp := pos_head st.olds i hi
  have hf2 := ofs L
  have hfit := L.ofit
  have hsz := L.sz
  obtain ⟨A, hA⟩ : ∃ A : Int, st.f2 + (pos st.olds i : Int) = A := ⟨_, rfl⟩
  have hAr : -9223372036854775808 ≤ A ∧ A ≤ 9223372036854775807 := by omega
  have hY := L.old_yes i hi
  rw [hA] at hyes hY hT ⊢
  go_enter Try.func32, Try.ntmps32
  go_wp2_with (first
    | (go_at_call 44; (with_reducible refine hY.mono ?_); clear hY; rintro e w1 ⟨⟨gw, c, hv, hcap, rfl⟩, ⟨m1, rfl⟩⟩
       have hne := slice_there ⟨gw, pos st.olds i, none⟩ (st.olds[i].fs.length + 1) (c - pos st.olds i)
       have L1 := L.keep (w' := w.drewN m1) (T := fun _ => False) (Fr.of_drawn ⟨m1, rfl⟩) (fun _ _ h => h)
       have hcell1 : (w.drewN m1).cell? ⟨g, 8, none⟩ = some (.map (some mb)) := (blk_cell L1.H.blk 8).trans rfl)
    | (at_lookup; refine wpList_lookup_own_ok_int _ rfl (.tmp 23) (.tmp 24) 75 rfl 3 3 .i64 (Maps.int_keyed Try.underlying3) Try.underlying75 Try.underlying3 (zero3 _) mb n st.mvd rfl L1.map (.int .i64 A) (.int .i64 A) rfl (Maps.keyOf_int_mk Try.underlying3 (wf_i64 hAr)) ?_; intro cc hat hwfc; rw [hyes]
       obtain rfl : cc = T := by
         rw [hT] at hat
         injection hat with hat
         injection hat with _ hat
         exact hat.symm))
  go_ret2
  exact ⟨rfl, ⟨_, rfl⟩⟩
end Go.Proofs.Ytaliolnndbnfhaa.Mem
