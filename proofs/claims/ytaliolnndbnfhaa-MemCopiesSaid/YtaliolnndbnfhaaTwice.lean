/- Behind two changes of halves nothing is left: the walk of the law MemTwice. -/
import Derived.Test.YtaliolnndbnfhaaFresh
namespace Go.Proofs.Ytaliolnndbnfhaa.Mem
open Go.RowKit Go.Proofs.YtaliolnndbnfhaaW.PrintWords Go.Proofs.YtaliolnndbnfhaaW.PrintLast Go.Proofs.YtaliolnndbnfhaaW.PrintMore
open Hf (rightB hdr headOf partsOf w64_of)
set_option linter.unusedSimpArgs false
set_option linter.unusedVariables false
variable {S : Nat → Prop} {w w' w0 : World} {g mb n : Nat} {st : St} {va vs vw vh ow oh : Value} {ads ss : List Int}
theorem ofs (L : Lie S w g st vw vh ow oh mb n) : 0 ≤ st.f2 ∧ st.f2 ≤ 200000 := by
  have h := L.sz
  unfold St.f2
  rcases L.hf with e | e <;> rw [e] <;> omega
/-- A view of the old half, or that there is none. -/
theorem Lie.old_at (L : Lie S w g st vw vh ow oh mb n) (a : Int) (ha : -9223372036854775808 ≤ a ∧ a ≤ 9223372036854775807) :
    Calls Try.prog 44 #[.pointer (some ⟨g, 5, none⟩), .int .i64 a] w fun e w' => ((∃ (i gw c : Nat) (h : i < st.olds.length), a = st.f2 + (pos st.olds i : Int) ∧ ow = .slice (some ⟨gw, 0, none⟩) (flat st.olds).length c ∧ (flat st.olds).length ≤ c ∧ e = .returned (.slice (some ⟨gw, pos st.olds i, none⟩) (st.olds[i].fs.length + 1) (c - pos st.olds i))) ∨
      (NoHead st.f2 st.olds a ∧ e = .returned (.slice none 0 0))) ∧ Drawn0 w w' := by
  obtain ⟨aw, cw, e1⟩ := Kd.R_slice L.ows
  obtain ⟨ah, ch, e2⟩ := Kd.R_slice L.ohs
  have hb := L.H.blk
  have hws := L.ows
  have hhs := L.ohs
  have hsz := L.sz
  have hfit := L.ofit
  rw [e1, e2] at hb
  rw [e1] at hws
  rw [e2] at hhs
  refine (at_any w g 5 st.f2 st.olds 0 _ cw aw ah _ ch a L.ook (ofs L) (by omega) ha ((blk_cell hb 5).trans rfl) ((blk_cell hb 6).trans rfl) ((blk_cell hb 7).trans rfl) hws hhs).mono ?_
  rintro e w' ⟨h, hd⟩
  refine ⟨?_, hd⟩
  rcases h with ⟨i, gw, hi, h1, h2, h3⟩ | h
  · exact .inl ⟨i, gw, cw, hi, h1, by rw [e1, h2], (Kd.R_reads' hws).2.1, h3⟩
  · exact .inr h
theorem Lie.old_no (L : Lie S w g st vw vh ow oh mb n) (a : Int) (ha : -9223372036854775808 ≤ a ∧ a ≤ 9223372036854775807) (hn : NoHead st.f2 st.olds a) :
    Calls Try.prog 44 #[.pointer (some ⟨g, 5, none⟩), .int .i64 a] w fun e w' => e = .returned (.slice none 0 0) ∧ Drawn0 w w' := by
  refine (L.old_at a ha).mono ?_
  rintro e w' ⟨h, h2⟩
  refine ⟨?_, h2⟩
  rcases h with ⟨i', gw, c, hi', he, hv, hcap, h3⟩ | ⟨-, h⟩
  · exact absurd he (hn.not hi')
  · exact h
set_option maxHeartbeats 4000000 in
set_option maxRecDepth 100000 in
theorem IsMem.move_no (M : IsMem S w g st) (a : Int) (ha : -9223372036854775808 ≤ a ∧ a ≤ 9223372036854775807) (hn : NoHead st.f2 st.olds a) :
    Calls Try.prog 32 #[.pointer (some ⟨g, 0, none⟩), .int .i64 a] w fun e w' => e = .returned (.tuple #[.int .i64 0, .int .i64 20]) ∧ Drawn0 w w' := by
  obtain ⟨vw, vh, ow, oh, mb, n, L⟩ := M
  have hne := slice_none
  have hA := L.old_no a ha hn
  go_enter Try.func32, Try.ntmps32
  go_wp2_with (first
    | (go_at_call 44; (with_reducible refine hA.mono ?_); clear hA; rintro e w5 ⟨rfl, ⟨m5, rfl⟩⟩))
  go_ret2
  exact ⟨rfl, ⟨_, rfl⟩⟩
theorem Fil.move_no (F : Fil w0 w g st va vs ads ss) (a : Int) (ha : -9223372036854775808 ≤ a ∧ a ≤ 9223372036854775807) (hn : NoHead st.f2 st.olds a) :
    Calls Try.prog 32 #[.pointer (some ⟨g, 0, none⟩), .int .i64 a] w fun e w' => e = .returned (.tuple #[.int .i64 0, .int .i64 20]) ∧ Fil w0 w' g st va vs ads ss :=
  (F.one.2.move_no a ha hn).mono (fun e w' h => ⟨h.1, F.drawn h.2⟩)
set_option maxHeartbeats 8000000 in
set_option maxRecDepth 100000 in
theorem twice_any (a0 : Int) (A : Option Addr) (c : Nat) (row : List Int) (w : World) (hC : Kd.C (Kd.int .i64) w A row.length row) (hc : row.length ≤ c) :
    Calls Try.prog 10 #[.int .i64 a0, .slice A row.length c] w fun e w' => e = .returned (.bool true) ∧ Below w.heap.size w w' := by
  go_enter Try.func10, Try.ntmps10
  go_wp2_with (first
    | (go_at_call 23; (with_reducible refine (filled_any a0 A c row _ hC hc).mono ?_); rintro e w1 ⟨g, W, ns, va, vs, rfl, G, F⟩
       have hal := heads_length 1 (fillOs ns)
       have hll := fillOs_length ns
       obtain ⟨Aa, ca, rfl⟩ := Kd.R_slice F.ra
       rw [hal, hll] at F ⊢
       have hM := G.many
       have hfit := G.fit
       have hW2 := G.w2
       have hFl := F.flip)
    | (go_at_call 28; (with_reducible refine hFl.mono ?_); clear hFl; rintro e w2 ⟨rfl, F2⟩
       have hH : Calls Try.prog 30 #[.pointer (some ⟨g, 0, none⟩)] w2 fun e w' => e = .returned (.int .i64 1) ∧ w' = w2 := F2.one.2.halfc
       have hFl2 := F2.flip
       rw [flip_two] at hFl2)
    | (go_at_call 30; (with_reducible refine hH.mono ?_); clear hH; rintro e w3 ⟨rfl, rfl⟩)
    | (go_at_call 28; (with_reducible refine hFl2.mono ?_); clear hFl2; rintro e w4 ⟨rfl, F4⟩))
  go_loopw [8] (fun i wr => ∃ q : Nat, i = .int .i64 q ∧ q ≤ ns.length ∧ Fil w wr g (st2 W) (.slice Aa ns.length ca) vs (heads 1 (fillOs ns)) (ints ns)) (fun i _ => ns.length - (intOf i).toNat)
  case atStart => exact ⟨0, rfl, Nat.zero_le _, F4⟩
  case round =>
    clear F4 F2 F
    obtain ⟨q, rfl, hq, F7⟩ := hrel
    by_cases hqn : q < ns.length
    · have t1 : decide ((q : Int) < (ns.length : Int)) = true := decide_eq_true (by omega)
      have hi0 : decide (0 ≤ (q : Int)) = true := decide_eq_true (by omega)
      obtain ⟨ga, ca', ea, -⟩ := Kd.R_form F7.ra (by omega)
      injection ea with ea1 ea2 ea3
      subst ea1
      clear ea2 ea3
      have hpm := pos_mono (fillOs ns) q (by omega)
      obtain ⟨AD, hAD⟩ : ∃ AD : Int, 1 + (pos (fillOs ns) q : Int) = AD := ⟨_, rfl⟩
      have hADl : -9223372036854775808 ≤ AD ∧ AD ≤ 9223372036854775807 := by omega
      have cellA : ∀ W', Hs W' (.slice (some ⟨ga, 0, none⟩) ns.length ca) (heads 1 (fillOs ns)) → W'.cell? ⟨ga, q, none⟩ = some (.int .i64 AD) := fun W' h => by
        have := (Kd.R_celln (0 : Int) h (q : Int) (by omega) (by omega)).1
        rw [heads_getD 1 _ q (by omega), Int.toNat_natCast, hAD] at this
        exact this
      have q1 := cellA _ F7.ra
      have noH : ∀ f, NoHead f (st2 W).os AD := fun f i hi => by cases hi
      have hL := F7.load_no AD 0 hADl (by omega) (.inl (noH _))
      go_wp2_with (first
        | (go_at_call 26; (with_reducible refine hL.mono ?_); clear hL; rintro e w8 ⟨rfl, F8⟩
           have q2 := cellA _ F8.ra
           have hMv := F8.move_no AD hADl (fun i hi => by cases hi))
        | (go_at_call 32; (with_reducible refine hMv.mono ?_); clear hMv; rintro e w9 ⟨rfl, F9⟩))
      go_roundw
      case rel => exact ⟨q + 1, by simp, by omega, F9⟩
      case measure => simp [intOf]; omega
    · have t1 : decide ((q : Int) < (ns.length : Int)) = false := decide_eq_false (by omega)
      have hH : Calls Try.prog 30 #[.pointer (some ⟨g, 0, none⟩)] wr fun e w' => e = .returned (.int .i64 0) ∧ w' = wr := F7.one.2.halfc
      have hNx : Calls Try.prog 24 #[.pointer (some ⟨g, 0, none⟩)] wr fun e w' => e = .returned (.int .i64 1) ∧ Drawn0 wr w' := (F7.one.2.next).mono (fun e w' h => ⟨h.1.trans (congrArg (fun z => Ending.returned (.int .i64 z)) (by rw [st2_f]; rfl)), h.2⟩)
      have t5 : ((W : Int) == (W : Int)) = true := by simp
      go_wp2_with (first
        | (go_at_call 30; (with_reducible refine hH.mono ?_); clear hH; rintro e w3 ⟨rfl, rfl⟩)
        | (go_at_call 24; (with_reducible refine hNx.mono ?_); clear hNx; rintro e w9 ⟨rfl, hd9⟩
           have F9 := F7.drawn hd9
           have hFr : Calls Try.prog 22 #[.pointer (some ⟨g, 0, none⟩)] w9 fun e w' => e = .returned (.int .i64 (W : Int)) ∧ Drawn0 w9 w' := (F9.one.2.free).mono (fun e w' h => ⟨h.1.trans (congrArg (fun z => Ending.returned (.int .i64 z)) (by show (W : Int) - ((flat ([] : List O)).length : Int) = W; simp [flat])), h.2⟩))
        | (go_at_call 22; (with_reducible refine hFr.mono ?_); clear hFr; rintro e w10 ⟨rfl, hd10⟩
           have F10 := F9.drawn hd10
           have hWd : Calls Try.prog 29 #[.pointer (some ⟨g, 0, none⟩)] w10 fun e w' => e = .returned (.int .i64 (W : Int)) ∧ w' = w10 := F10.one.2.words)
        | (go_at_call 29; (with_reducible refine hWd.mono ?_); clear hWd; rintro e w11 ⟨rfl, rfl⟩)
        | (go_at_call 18; (with_reducible refine (known_any _).mono ?_); rintro e w12 ⟨rfl, hB12⟩))
      go_ret
      exact ⟨rfl, F10.one.end_ hB12⟩
theorem twice_walk (a0 : Int) (a1 : Option Addr) (len1 cap1 : Nat) (z1 : List Int) (w : World) (_ : (Lit.int .i64 a0).wf = true)
    (w1 : (a1 = none ∧ len1 = 0 ∧ cap1 = 0 ∧ z1 = []) ∨ ∃ x, a1 = some x ∧ len1 ≤ cap1 ∧ cap1 ≤ maxLen ∧ z1.length = cap1 ∧ (∀ i, i < z1.length → w.cell? (x.add i) = some (.int .i64 (z1.getD i 0))) ∧ ∀ n ∈ z1, (Lit.int .i64 n).wf = true) (y1 : len1 * 8 ≤ 140737488351232) :
    Calls Try.prog 10 #[.int .i64 a0, .slice a1 len1 cap1] w fun e w' => e = .returned (.bool true) ∧ Below w.heap.size w w' := by
  obtain ⟨l1, rfl, hr1, hm1, hw1, hc1⟩ := ReadsInt.ofRowC w1
  exact twice_any a0 a1 cap1 l1 w (Kd.C_of_reads (d := (0 : Int)) (h1 := fun _ => rfl) hr1) hc1
end Go.Proofs.Ytaliolnndbnfhaa.Mem
