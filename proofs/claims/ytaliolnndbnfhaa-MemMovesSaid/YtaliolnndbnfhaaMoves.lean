/- A moved object is what it was: the walk of the law MemMoves. -/
import Derived.Test.YtaliolnndbnfhaaMoved
namespace Go.Proofs.Ytaliolnndbnfhaa.Mem
open Go.RowKit Go.Proofs.YtaliolnndbnfhaaW.PrintWords Go.Proofs.YtaliolnndbnfhaaW.PrintLast Go.Proofs.YtaliolnndbnfhaaW.PrintMore
open Hf (rightB hdr headOf partsOf w64_of)
set_option linter.unusedSimpArgs false
set_option linter.unusedVariables false
variable {w0 w w' : World} {g W : Nat} {ns mvI : List Nat} {va vs : Value}
theorem mvo_get (ns mvI : List Nat) (p : Nat) (h : p < (mvo ns mvI).length) (hp : p < mvI.length) : (mvo ns mvI)[p] = fillO mvI[p] (ns.getD mvI[p] 0) := by simp only [mvo, List.getElem_map]
theorem Mv.ra (M : Mv w0 w g W ns mvI va vs) : Hs w va (heads 1 (fillOs ns)) := by obtain ⟨D, F⟩ := M.fil; exact F.ra
theorem Mv.rs (M : Mv w0 w g W ns mvI va vs) : Hs w vs (ints ns) := by obtain ⟨D, F⟩ := M.fil; exact F.rs
theorem Mv.bel (M : Mv w0 w g W ns mvI va vs) : Below w0.heap.size w0 w := by obtain ⟨D, F⟩ := M.fil; exact F.one.1
theorem Mv.nodup (M : Mv w0 w g W ns mvI va vs) : mvI.Nodup := by obtain ⟨D, M⟩ := M; exact M.nod
theorem Mv.ltn (M : Mv w0 w g W ns mvI va vs) : ∀ i ∈ mvI, i < ns.length := by obtain ⟨D, M⟩ := M; exact M.lt
theorem Mv.fits (M : Mv w0 w g W ns mvI va vs) (G : Goods W ns) : (flat (mvo ns mvI)).length ≤ W := by
  have := tot_le ns ns.length mvI M.nodup M.ltn
  rw [← fill_tot] at this
  rw [mvo_flat]
  exact Nat.le_trans this G.fit
theorem Mv.next (M : Mv w0 w g W ns mvI va vs) (X : Int) (hX : 1 + (W : Int) + ((flat (mvo ns mvI)).length : Int) = X) : Calls Try.prog 24 #[.pointer (some ⟨g, 0, none⟩)] w fun e w' => e = .returned (.int .i64 X) ∧ Mv w0 w' g W ns mvI va vs := by
  obtain ⟨D, F⟩ := M.fil
  have := F.one.2.next
  rw [stM_f] at this
  refine this.mono ?_
  rintro e w' ⟨h1, h2⟩
  exact ⟨h1.trans (congrArg (fun z => Ending.returned (.int .i64 z)) hX), M.drawn h2⟩
theorem Mv.half (M : Mv w0 w g W ns mvI va vs) : Calls Try.prog 30 #[.pointer (some ⟨g, 0, none⟩)] w fun e w' => e = .returned (.int .i64 1) ∧ w' = w := by
  obtain ⟨D, F⟩ := M.fil
  exact F.one.2.halfc
theorem Mv.look (M : Mv w0 w g W ns mvI va vs) (p : Nat) (hp : p < mvI.length) (N : Nat) (hN : ns.getD mvI[p] 0 = N) : Calls Try.prog 33 #[.pointer (some ⟨g, 0, none⟩), .int .i64 (1 + (W : Int) + (pos (mvo ns mvI) p : Int))] w fun e w' => e = .returned (.tuple #[.int .i64 1, .int .i64 (N : Int), .int .i64 (N : Int), .int .i64 0]) ∧ Mv w0 w' g W ns mvI va vs := by
  obtain ⟨D, F⟩ := M.fil
  have hpo : p < (stM W ns mvI D).os.length := by show p < (mvo ns mvI).length; rw [mvo_length]; exact hp
  have ho : (stM W ns mvI D).os[p] = fillO mvI[p] N := by show (mvo ns mvI)[p]'hpo = _; rw [mvo_get ns mvI p hpo hp, hN]
  have := F.one.2.look p hpo
  rw [stM_f, ho, fillO_len] at this
  refine this.mono ?_
  rintro e w' ⟨h1, h2⟩
  exact ⟨h1, M.drawn h2⟩
theorem Mv.load (M : Mv w0 w g W ns mvI va vs) (p : Nat) (hp : p < mvI.length) (N j : Nat) (hN : ns.getD mvI[p] 0 = N) (hj : j < N) : Calls Try.prog 26 #[.pointer (some ⟨g, 0, none⟩), .int .i64 (1 + (W : Int) + (pos (mvo ns mvI) p : Int)), .int .i64 j] w fun e w' => e = .returned (.tuple #[.int .u64 ((100 * mvI[p] + j : Nat) : Int), .int .i64 0]) ∧ Mv w0 w' g W ns mvI va vs := by
  obtain ⟨D, F⟩ := M.fil
  have hpo : p < (stM W ns mvI D).os.length := by show p < (mvo ns mvI).length; rw [mvo_length]; exact hp
  have ho : (stM W ns mvI D).os[p] = fillO mvI[p] N := by show (mvo ns mvI)[p]'hpo = _; rw [mvo_get ns mvI p hpo hp, hN]
  have := F.one.2.load p j hpo (by rw [ho, fillO_len]; exact hj)
  rw [stM_f, ho, fillO_val _ _ _ hj] at this
  refine this.mono ?_
  rintro e w' ⟨h1, h2⟩
  exact ⟨h1, M.drawn h2⟩
theorem Mv.gone (M : Mv w0 w g W ns mvI va vs) (A : Int) (hA : 1 ≤ A ∧ A ≤ W) (hW : W ≤ 500) : Calls Try.prog 26 #[.pointer (some ⟨g, 0, none⟩), .int .i64 A, .int .i64 0] w fun e w' => e = .returned (.tuple #[.int .u64 0, .int .i64 20]) ∧ Mv w0 w' g W ns mvI va vs := by
  obtain ⟨D, F⟩ := M.fil
  have hf := stM_f W ns mvI D
  have := F.one.2.load_no A 0 (by omega) (by omega) (.inl (fun i hi => by rw [hf]; omega))
  refine this.mono ?_
  rintro e w' ⟨h1, h2⟩
  exact ⟨h1, M.drawn h2⟩
theorem mvo_pos (ns mvI : List Nat) (p : Nat) (hp : p < mvI.length) (N : Nat) (hN : ns.getD mvI[p] 0 = N) : pos (mvo ns mvI) p + N + 1 ≤ (flat (mvo ns mvI)).length := by
  have hpo : p < (mvo ns mvI).length := by rw [mvo_length]; exact hp
  have := pos_head (mvo ns mvI) p hpo
  have ho : (mvo ns mvI)[p] = fillO mvI[p] N := by rw [mvo_get ns mvI p hpo hp, hN]
  rw [ho, fillO_len] at this
  exact this
set_option maxHeartbeats 16000000 in
set_option maxRecDepth 100000 in
theorem moves_any (a0 : Int) (A : Option Addr) (c : Nat) (row : List Int) (B : Option Addr) (cb : Nat) (pick : List Int) (w : World) (hC : Kd.C (Kd.int .i64) w A row.length row) (hc : row.length ≤ c) (hP : Kd.C (Kd.int .i64) w B pick.length pick) :
    Calls Try.prog 11 #[.int .i64 a0, .slice A row.length c, .slice B pick.length cb] w fun e w' => e = .returned (.bool true) ∧ Below w.heap.size w w' := by
  go_enter Try.func11, Try.ntmps11
  go_wp2_with (first
    | (go_at_call 23; (with_reducible refine (filled_any a0 A c row _ hC hc).mono ?_); rintro e w1 ⟨g, W, ns, va, vs, rfl, G, F⟩
       have hal := heads_length 1 (fillOs ns)
       have hll := fillOs_length ns
       obtain ⟨Aa, ca, rfl⟩ := Kd.R_slice F.ra
       obtain ⟨As, cs, rfl⟩ := Kd.R_slice F.rs
       have hil : (ints ns).length = ns.length := by simp [ints]
       rw [hal, hll, hil] at F ⊢
       have hM := G.many
       have hW2 := G.w2
       have hfit := G.fit
       have hFl := F.flip
       rw [flip_stF] at hFl)
    | (go_at_call 28; (with_reducible refine hFl.mono ?_); clear hFl; rintro e w2 ⟨rfl, F2⟩
       have M2 := Mv.start F2
       have hNx := M2.next (1 + (W : Int)) (by simp [mvo, flat])
       clear F2)
    | (go_at_call 24; (with_reducible refine hNx.mono ?_); clear hNx; rintro e w3 ⟨rfl, M3⟩))
  go_loopw [10, 11] (fun nx j wr => ∃ (q : Nat) (mvI : List Nat), j = .int .i64 q ∧ q ≤ pick.length ∧ nx = .int .i64 (1 + (W : Int) + ((flat (mvo ns mvI)).length : Int)) ∧ Mv w wr g W ns mvI (.slice Aa ns.length ca) (.slice As ns.length cs)) (fun _ j _ => pick.length - (intOf j).toNat)
  case atStart => exact ⟨0, [], rfl, Nat.zero_le _, by simp [mvo, flat], M3⟩
  case round =>
    clear M3 M2 F
    obtain ⟨q, mvI, rfl, hq, rfl, M4⟩ := hrel
    have hfits := M4.fits G
    obtain ⟨X, hX⟩ : ∃ X : Int, 1 + (W : Int) + ((flat (mvo ns mvI)).length : Int) = X := ⟨_, rfl⟩
    have hXr : 1 ≤ X ∧ X ≤ 1100 := by omega
    rw [hX]
    by_cases hgo : q < pick.length ∧ q < 100 ∧ 0 < ns.length
    · obtain ⟨g1, g2, g3⟩ := hgo
      have t1 : decide ((q : Int) < (pick.length : Int)) = true := decide_eq_true (by omega)
      have t2 : decide ((q : Int) < 100) = true := decide_eq_true (by omega)
      have t3 : decide ((ns.length : Int) > 0) = true := decide_eq_true (by omega)
      have hq0 : decide (0 ≤ (q : Int)) = true := decide_eq_true (by omega)
      obtain ⟨ad, rfl, hrd⟩ := Kd.at_int (Kd.C_below hP M4.bel) (q : Int) (by omega) (by omega)
      rw [Int.toNat_natCast] at hrd
      obtain ⟨i, hi, hil1⟩ := among_f (rd pick (q : Int)) (ns.length : Int) (by omega) (by omega)
      have hin : i < ns.length := by omega
      have hi0 : decide (0 ≤ (i : Int)) = true := decide_eq_true (by omega)
      have hi1 : decide ((i : Int) < (ns.length : Int)) = true := decide_eq_true (by omega)
      obtain ⟨N, hN⟩ : ∃ N : Nat, ns[i] = N := ⟨_, rfl⟩
      have hNd : ns.getD i 0 = N := by rw [fill_getD ns i hin, hN]
      have hn8 := G.each _ (List.getElem_mem hin)
      rw [hN] at hn8
      have hN8 : (N : Int) ≤ 8 := by omega
      obtain ⟨ga, ca', ea, -⟩ := Kd.R_form M4.ra (by omega)
      obtain ⟨gs, cs', es, -⟩ := Kd.R_form M4.rs (by omega)
      injection ea with ea1 ea2 ea3
      injection es with es1 es2 es3
      subst ea1 es1
      clear ea2 ea3 es2 es3
      obtain ⟨AD, hAD⟩ : ∃ AD : Int, 1 + (pos (fillOs ns) i : Int) = AD := ⟨_, rfl⟩
      have cellA : ∀ W', Hs W' (.slice (some ⟨ga, 0, none⟩) ns.length ca) (heads 1 (fillOs ns)) → W'.cell? ⟨ga, i, none⟩ = some (.int .i64 AD) := fun W' h => by
        have := (Kd.R_celln (0 : Int) h (i : Int) (by omega) (by omega)).1
        rw [heads_getD 1 _ i (by omega), Int.toNat_natCast, hAD] at this
        exact this
      have cellS : ∀ W', Hs W' (.slice (some ⟨gs, 0, none⟩) ns.length cs) (ints ns) → W'.cell? ⟨gs, i, none⟩ = some (.int .i64 (N : Int)) := fun W' h => by
        have := (Kd.R_celln (0 : Int) h (i : Int) (by omega) (by omega)).1
        rw [ints_get ns i hin, Int.toNat_natCast, hN] at this
        exact this
      go_wp2_with (first
        | (go_at_call 19; (with_reducible refine (among_any (rd pick (q : Int)) (ns.length : Int) i _ hi).mono ?_); rintro e w5 ⟨rfl, hd5⟩
           have M5 := M4.drawn hd5
           have q1 := cellA _ M5.ra
           have hMv := M5.move G i hin
           rw [hAD] at hMv)
        | (go_at_call 32; (with_reducible refine hMv.mono ?_); clear hMv; rintro e w6 ⟨p, l, rfl, M6, ⟨hp, hpl⟩, hcase⟩
           have q2 := cellA _ M6.ra
           have hMv2 := M6.move G i hin
           rw [hAD] at hMv2)
        | (go_at_call 32; (with_reducible refine hMv2.mono ?_); clear hMv2; rintro e w7 ⟨p2, l2, rfl, M7, ⟨hp2, hpl2⟩, hcase2⟩; refine Hid.out ?_))
      unfold Hid
      have hil : i ∈ l := hpl ▸ List.getElem_mem hp
      obtain rfl : l2 = l := by
        rcases hcase2 with ⟨-, h⟩ | ⟨h, -⟩
        · exact h
        · exact absurd hil h
      obtain rfl : p2 = p := (List.getElem_inj M7.nodup).1 (hpl2.trans hpl.symm)
      have hNp : ns.getD l2[p2] 0 = N := by rw [hpl]; exact hNd
      have hpos := mvo_pos ns l2 p2 hp N hNp
      have hfits2 := M7.fits G
      have hLk := M7.look p2 hp N hNp
      have hLd : ∀ W', Mv w W' g W ns l2 (.slice (some ⟨ga, 0, none⟩) ns.length ca) (.slice (some ⟨gs, 0, none⟩) ns.length cs) → ∀ j : Nat, j < N → _ := fun W' M' j hj => M'.load p2 hp N j hNp hj
      obtain ⟨T, hT⟩ : ∃ T : Int, 1 + (W : Int) + (pos (mvo ns l2) p2 : Int) = T := ⟨_, rfl⟩
      rw [hT] at hLk hLd ⊢
      rw [hpl] at hLd
      have q3 := cellA _ M7.ra
      have q4 := cellS _ M7.rs
      have hTT : (T != T) = false := by simp
      have hNN : ((N : Int) != (N : Int)) = false := by simp
      have hTr : 1 ≤ T ∧ T ≤ 1100 := by omega
      clear hcase2 hpl2 hp2 M6 M5 M4
      rcases hcase with ⟨hm, hl⟩ | ⟨hm, hl, hpp⟩
      · have hX2 : 1 + (W : Int) + ((flat (mvo ns l2)).length : Int) = X := by rw [hl]; exact hX
        have hTX : T < X := by omega
        have t4 : decide (T > X) = false := decide_eq_false (by omega)
        have t5 : (T == X) = false := beq_eq_false_iff_ne.2 (by omega)
        clear hX hm hl
        go_wp2_with (first
          | (go_at_call 33; (with_reducible refine hLk.mono ?_); clear hLk; rintro e w8 ⟨rfl, M8⟩
             have q5 := cellA _ M8.ra
             have q6 := cellS _ M8.rs))
        go_loopw [21] (fun kk wq => ∃ j : Nat, kk = .int .i64 j ∧ j ≤ N ∧ Mv w wq g W ns l2 (.slice (some ⟨ga, 0, none⟩) ns.length ca) (.slice (some ⟨gs, 0, none⟩) ns.length cs)) (fun kk _ => N - (intOf kk).toNat)
        case atStart => exact ⟨0, rfl, Nat.zero_le _, M8⟩
        case round =>
          clear M8 M7 q1 q2 q3 q4 q5 q6
          obtain ⟨j, rfl, hj, M9⟩ := hrel
          by_cases hjN : j < N
          · have t6 : decide ((j : Int) < (N : Int)) = true := decide_eq_true (by omega)
            have hL := hLd _ M9 j hjN
            obtain ⟨V, hV⟩ : ∃ V : Nat, 100 * i + j = V := ⟨_, rfl⟩
            rw [hV] at hL
            have hU : 100 * (i : Int) + (j : Int) = (V : Int) := by omega
            have hU2 : (V : Int) % 18446744073709551616 = (V : Int) := by omega
            have hVV : ((V : Int) != (V : Int)) = false := by simp
            go_wp2_with (first
              | (go_at_call 26; (with_reducible refine hL.mono ?_); clear hL; rintro e w10 ⟨rfl, M10⟩))
            go_roundw
            case rel => exact ⟨j + 1, by simp, by omega, M10⟩
            case measure => simp [intOf]; omega
          · have t6 : decide ((j : Int) < (N : Int)) = false := decide_eq_false (by omega)
            go_wp2_with fail
            go_roundw
            case rel => exact ⟨q + 1, l2, by simp, by omega, by rw [hX2], M9⟩
            case measure => simp [intOf]; omega
      · have hTX : T = X := by
          rw [← hT, ← hX, hl, hpp, mvo_snoc, ← mvo_length ns mvI, pos_last]
        subst hTX
        have hX2 : 1 + (W : Int) + ((flat (mvo ns l2)).length : Int) = T + 1 + (N : Int) := by
          rw [hl, mvo_flat, tot_append, ← mvo_flat, show tot ns [i] = ns.getD i 0 + 1 by simp [tot], hNd]
          omega
        have t4 : decide (T > T) = false := decide_eq_false (by omega)
        have t5 : (T == T) = true := by simp
        clear hX hm hl hpp
        go_wp2_with (first
          | (go_at_call 33; (with_reducible refine hLk.mono ?_); clear hLk; rintro e w8 ⟨rfl, M8⟩
             have q5 := cellA _ M8.ra
             have q6 := cellS _ M8.rs))
        go_loopw [21] (fun kk wq => ∃ j : Nat, kk = .int .i64 j ∧ j ≤ N ∧ Mv w wq g W ns l2 (.slice (some ⟨ga, 0, none⟩) ns.length ca) (.slice (some ⟨gs, 0, none⟩) ns.length cs)) (fun kk _ => N - (intOf kk).toNat)
        case atStart => exact ⟨0, rfl, Nat.zero_le _, M8⟩
        case round =>
          clear M8 M7 q1 q2 q3 q4 q5 q6
          obtain ⟨j, rfl, hj, M9⟩ := hrel
          by_cases hjN : j < N
          · have t6 : decide ((j : Int) < (N : Int)) = true := decide_eq_true (by omega)
            have hL := hLd _ M9 j hjN
            obtain ⟨V, hV⟩ : ∃ V : Nat, 100 * i + j = V := ⟨_, rfl⟩
            rw [hV] at hL
            have hU : 100 * (i : Int) + (j : Int) = (V : Int) := by omega
            have hU2 : (V : Int) % 18446744073709551616 = (V : Int) := by omega
            have hVV : ((V : Int) != (V : Int)) = false := by simp
            go_wp2_with (first
              | (go_at_call 26; (with_reducible refine hL.mono ?_); clear hL; rintro e w10 ⟨rfl, M10⟩))
            go_roundw
            case rel => exact ⟨j + 1, by simp, by omega, M10⟩
            case measure => simp [intOf]; omega
          · have t6 : decide ((j : Int) < (N : Int)) = false := decide_eq_false (by omega)
            go_wp2_with fail
            go_roundw
            case rel => exact ⟨q + 1, l2, by simp, by omega, by rw [hX2], M9⟩
            case measure => simp [intOf]; omega
    · by_cases g1 : q < pick.length
      · have t1 : decide ((q : Int) < (pick.length : Int)) = true := decide_eq_true (by omega)
        by_cases g2 : q < 100
        · have t2 : decide ((q : Int) < 100) = true := decide_eq_true (by omega)
          have g3 : ns.length = 0 := by omega
          have t3 : decide ((ns.length : Int) > 0) = false := decide_eq_false (by omega)
          go_wp2_with fail
          go_loopw [24] (fun ii wq => ∃ m : Nat, ii = .int .i64 m ∧ m ≤ ns.length ∧ Mv w wq g W ns mvI (.slice Aa ns.length ca) (.slice As ns.length cs)) (fun ii _ => ns.length - (intOf ii).toNat)
          case atStart => exact ⟨0, rfl, Nat.zero_le _, M4⟩
          case round =>
            clear M4
            obtain ⟨m, rfl, hm, M9⟩ := hrel
            by_cases hmn : m < ns.length
            · exact absurd hmn (by omega)
            · have t6 : decide ((m : Int) < (ns.length : Int)) = false := decide_eq_false (by omega)
              have hXX : (X == X) = true := by simp
              have hNx := M9.next X hX
              go_wp2_with (first
                | (go_at_call 24; (with_reducible refine hNx.mono ?_); clear hNx; rintro e w10 ⟨rfl, M10⟩
                   have hH := M10.half)
                | (go_at_call 30; (with_reducible refine hH.mono ?_); clear hH; rintro e w11 ⟨rfl, rfl⟩)
                | (go_at_call 18; (with_reducible refine (known_any _).mono ?_); rintro e w12 ⟨rfl, hB12⟩))
              go_ret
              exact ⟨rfl, M10.bel.trans (hB12.mono M10.bel.size)⟩
        · have t2 : decide ((q : Int) < 100) = false := decide_eq_false (by omega)
          go_wp2_with fail
          go_loopw [24] (fun ii wq => ∃ m : Nat, ii = .int .i64 m ∧ m ≤ ns.length ∧ Mv w wq g W ns mvI (.slice Aa ns.length ca) (.slice As ns.length cs)) (fun ii _ => ns.length - (intOf ii).toNat)
          case atStart => exact ⟨0, rfl, Nat.zero_le _, M4⟩
          case round =>
            clear M4
            obtain ⟨m, rfl, hm, M9⟩ := hrel
            by_cases hmn : m < ns.length
            · have t6 : decide ((m : Int) < (ns.length : Int)) = true := decide_eq_true (by omega)
              have hm0 : decide (0 ≤ (m : Int)) = true := decide_eq_true (by omega)
              obtain ⟨ga, ca', ea, -⟩ := Kd.R_form M9.ra (by omega)
              injection ea with ea1 ea2 ea3
              subst ea1
              clear ea2 ea3
              have hph := pos_head (fillOs ns) m (by omega)
              obtain ⟨AD, hAD⟩ : ∃ AD : Int, 1 + (pos (fillOs ns) m : Int) = AD := ⟨_, rfl⟩
              have q1 := (Kd.R_celln (0 : Int) M9.ra (m : Int) (by omega) (by omega)).1
              rw [heads_getD 1 _ m (by omega), Int.toNat_natCast, hAD] at q1
              have hL := M9.gone AD (by omega) hW2
              go_wp2_with (first
                | (go_at_call 26; (with_reducible refine hL.mono ?_); clear hL; rintro e w10 ⟨rfl, M10⟩))
              go_roundw
              case rel => exact ⟨m + 1, by simp, by omega, M10⟩
              case measure => simp [intOf]; omega
            · have t6 : decide ((m : Int) < (ns.length : Int)) = false := decide_eq_false (by omega)
              have hXX : (X == X) = true := by simp
              have hNx := M9.next X hX
              go_wp2_with (first
                | (go_at_call 24; (with_reducible refine hNx.mono ?_); clear hNx; rintro e w10 ⟨rfl, M10⟩
                   have hH := M10.half)
                | (go_at_call 30; (with_reducible refine hH.mono ?_); clear hH; rintro e w11 ⟨rfl, rfl⟩)
                | (go_at_call 18; (with_reducible refine (known_any _).mono ?_); rintro e w12 ⟨rfl, hB12⟩))
              go_ret
              exact ⟨rfl, M10.bel.trans (hB12.mono M10.bel.size)⟩
      · have t1 : decide ((q : Int) < (pick.length : Int)) = false := decide_eq_false (by omega)
        go_wp2_with fail
        go_loopw [24] (fun ii wq => ∃ m : Nat, ii = .int .i64 m ∧ m ≤ ns.length ∧ Mv w wq g W ns mvI (.slice Aa ns.length ca) (.slice As ns.length cs)) (fun ii _ => ns.length - (intOf ii).toNat)
        case atStart => exact ⟨0, rfl, Nat.zero_le _, M4⟩
        case round =>
          clear M4
          obtain ⟨m, rfl, hm, M9⟩ := hrel
          by_cases hmn : m < ns.length
          · have t6 : decide ((m : Int) < (ns.length : Int)) = true := decide_eq_true (by omega)
            have hm0 : decide (0 ≤ (m : Int)) = true := decide_eq_true (by omega)
            obtain ⟨ga, ca', ea, -⟩ := Kd.R_form M9.ra (by omega)
            injection ea with ea1 ea2 ea3
            subst ea1
            clear ea2 ea3
            have hph := pos_head (fillOs ns) m (by omega)
            obtain ⟨AD, hAD⟩ : ∃ AD : Int, 1 + (pos (fillOs ns) m : Int) = AD := ⟨_, rfl⟩
            have q1 := (Kd.R_celln (0 : Int) M9.ra (m : Int) (by omega) (by omega)).1
            rw [heads_getD 1 _ m (by omega), Int.toNat_natCast, hAD] at q1
            have hL := M9.gone AD (by omega) hW2
            go_wp2_with (first
              | (go_at_call 26; (with_reducible refine hL.mono ?_); clear hL; rintro e w10 ⟨rfl, M10⟩))
            go_roundw
            case rel => exact ⟨m + 1, by simp, by omega, M10⟩
            case measure => simp [intOf]; omega
          · have t6 : decide ((m : Int) < (ns.length : Int)) = false := decide_eq_false (by omega)
            have hXX : (X == X) = true := by simp
            have hNx := M9.next X hX
            go_wp2_with (first
              | (go_at_call 24; (with_reducible refine hNx.mono ?_); clear hNx; rintro e w10 ⟨rfl, M10⟩
                 have hH := M10.half)
              | (go_at_call 30; (with_reducible refine hH.mono ?_); clear hH; rintro e w11 ⟨rfl, rfl⟩)
              | (go_at_call 18; (with_reducible refine (known_any _).mono ?_); rintro e w12 ⟨rfl, hB12⟩))
            go_ret
            exact ⟨rfl, M10.bel.trans (hB12.mono M10.bel.size)⟩
theorem moves_walk (a0 : Int) (a1 : Option Addr) (len1 cap1 : Nat) (z1 : List Int) (a2 : Option Addr) (len2 cap2 : Nat) (z2 : List Int) (w : World) (_ : (Lit.int .i64 a0).wf = true)
    (w1 : (a1 = none ∧ len1 = 0 ∧ cap1 = 0 ∧ z1 = []) ∨ ∃ x, a1 = some x ∧ len1 ≤ cap1 ∧ cap1 ≤ maxLen ∧ z1.length = cap1 ∧ (∀ i, i < z1.length → w.cell? (x.add i) = some (.int .i64 (z1.getD i 0))) ∧ ∀ n ∈ z1, (Lit.int .i64 n).wf = true) (y1 : len1 * 8 ≤ 140737488351232)
    (w2 : (a2 = none ∧ len2 = 0 ∧ cap2 = 0 ∧ z2 = []) ∨ ∃ x, a2 = some x ∧ len2 ≤ cap2 ∧ cap2 ≤ maxLen ∧ z2.length = cap2 ∧ (∀ i, i < z2.length → w.cell? (x.add i) = some (.int .i64 (z2.getD i 0))) ∧ ∀ n ∈ z2, (Lit.int .i64 n).wf = true) (y2 : len2 * 8 ≤ 140737488351232) :
    Calls Try.prog 11 #[.int .i64 a0, .slice a1 len1 cap1, .slice a2 len2 cap2] w fun e w' => e = .returned (.bool true) ∧ Below w.heap.size w w' := by
  obtain ⟨l1, rfl, hr1, hm1, hw1, hc1⟩ := ReadsInt.ofRowC w1
  obtain ⟨l2, rfl, hr2, hm2, hw2, hc2⟩ := ReadsInt.ofRowC w2
  exact moves_any a0 a1 cap1 l1 a2 cap2 l2 w (Kd.C_of_reads (d := (0 : Int)) (h1 := fun _ => rfl) hr1) hc1 (Kd.C_of_reads (d := (0 : Int)) (h1 := fun _ => rfl) hr2)
end Go.Proofs.Ytaliolnndbnfhaa.Mem
