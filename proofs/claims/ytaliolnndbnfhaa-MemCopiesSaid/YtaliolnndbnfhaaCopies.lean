/- A copy goes its own way: the walk of the law MemCopies. -/
import Derived.Test.YtaliolnndbnfhaaDup
import Derived.Test.YtaliolnndbnfhaaApart
namespace Go.Proofs.Ytaliolnndbnfhaa.Mem
open Go.RowKit Go.Proofs.YtaliolnndbnfhaaW.PrintWords Go.Proofs.YtaliolnndbnfhaaW.PrintLast Go.Proofs.YtaliolnndbnfhaaW.PrintMore
open Hf (rightB hdr headOf partsOf w64_of)
set_option linter.unusedSimpArgs false
set_option linter.unusedVariables false
theorem lens_get {a b : List O} (h : a.map (fun o => o.fs.length) = b.map (fun o => o.fs.length)) (i : Nat) (h1 : i < a.length) (h2 : i < b.length) : a[i].fs.length = b[i].fs.length := by
  have h3 : (a.map (fun o => o.fs.length))[i]'(by simpa using h1) = (b.map (fun o => o.fs.length))[i]'(by simpa using h2) := by simp only [h]
  simpa using h3
theorem lens_len {a b : List O} (h : a.map (fun o => o.fs.length) = b.map (fun o => o.fs.length)) : a.length = b.length := by simpa using congrArg List.length h
/-- All is as it was filled. -/
theorem fil_holds {W : Nat} {ns : List Nat} (G : Goods W ns) {S : Nat → Prop} {w : World} {g : Nat} (M : IsMem S w g (stF W ns)) (Aa As : Option Addr) (ca cs : Nat) (ra : Hs w (.slice Aa ns.length ca) (heads 1 (fillOs ns))) (rs : Hs w (.slice As ns.length cs) (ints ns)) :
    Calls Try.prog 27 #[.pointer (some ⟨g, 0, none⟩), .slice Aa ns.length ca, .slice As ns.length cs, .int .i64 (-1)] w fun e w' => e = .returned (.bool true) ∧ Drawn0 w w' := by
  have hll := fillOs_length ns
  refine holds_any M _ _ ca cs ns.length (-1) ?_ ?_ hll G.many ?_ ?_
  · rw [stF_f]; exact ra
  · show Hs w _ (lensI (fillOs ns))
    rw [lensI_fill]; exact rs
  · intro m hm
    have hm' : m < (fillOs ns).length := hm
    show (fillOs ns)[m].fs.length ≤ 8
    rw [fill_len ns m hm' (by omega)]
    exact (G.each _ (List.getElem_mem _)).2
  · intro m j hm hj hne
    have hm' : m < (fillOs ns).length := hm
    have hj' : j < (fillOs ns)[m].fs.length := hj
    show (fillOs ns)[m].fs.getD j 0 = _
    rw [fill_len ns m hm' (by omega)] at hj'
    rw [fillOs_get ns m hm' (by omega), fillO_val _ _ _ hj']
set_option maxHeartbeats 8000000 in
set_option maxRecDepth 100000 in
theorem copies_any (a0 : Int) (A : Option Addr) (c : Nat) (row : List Int) (v : Int) (w : World) (hC : Kd.C (Kd.int .i64) w A row.length row) (hc : row.length ≤ c) (hv : 0 ≤ v ∧ v < 18446744073709551616) :
    Calls Try.prog 9 #[.int .i64 a0, .slice A row.length c, .int .u64 v] w fun e w' => e = .returned (.bool true) ∧ Below w.heap.size w w' := by
  go_enter Try.func9, Try.ntmps9
  go_wp2_with (first
    | (go_at_call 23; (with_reducible refine (filled_any a0 A c row _ hC hc).mono ?_); rintro e w1 ⟨g, W, ns, va, vs, rfl, G, F⟩
       have hal := heads_length 1 (fillOs ns)
       have hll := fillOs_length ns
       obtain ⟨Aa, ca, rfl⟩ := Kd.R_slice F.ra
       obtain ⟨As, cs, rfl⟩ := Kd.R_slice F.rs
       have hil : (ints ns).length = ns.length := by simp [ints]
       rw [hal, hll, hil] at F ⊢
       have hM := G.many
       have hfit := G.fit
       have hW2 := G.w2
       have hCp := F.copy)
    | (go_at_call 31; (with_reducible refine hCp.mono ?_); clear hCp; rintro e w2 ⟨g2, rfl, D2⟩))
  go_loopw [11] (fun i wr => ∃ (q : Nat) (os : List O), i = .int .i64 q ∧ q ≤ ns.length ∧ os.map (fun o => o.fs.length) = (fillOs ns).map (fun o => o.fs.length) ∧ Dup w wr g (stF W ns) g2 { stF W ns with os := os } (.slice Aa ns.length ca) (.slice As ns.length cs) (heads 1 (fillOs ns)) (ints ns)) (fun i _ => ns.length - (intOf i).toNat)
  case atStart => exact ⟨0, fillOs ns, rfl, Nat.zero_le _, rfl, D2⟩
  case round =>
    clear D2 F
    obtain ⟨q, os, rfl, hq, hlens, D⟩ := hrel
    by_cases hqn : q < ns.length
    · have t1 : decide ((q : Int) < (ns.length : Int)) = true := decide_eq_true (by omega)
      have hi0 : decide (0 ≤ (q : Int)) = true := decide_eq_true (by omega)
      have ra := D.fil.ra
      obtain ⟨ga, ca', ea, -⟩ := Kd.R_form ra (by omega)
      injection ea with ea1 ea2 ea3
      subst ea1
      clear ea2 ea3
      have hpm := pos_mono (fillOs ns) q (by omega)
      obtain ⟨AD, hAD⟩ : ∃ AD : Int, 1 + (pos (fillOs ns) q : Int) = AD := ⟨_, rfl⟩
      have q1 : wr.cell? ⟨ga, q, none⟩ = some (.int .i64 AD) := by
        have := (Kd.R_celln (0 : Int) ra (q : Int) (by omega) (by omega)).1
        rw [heads_getD 1 _ q (by omega), Int.toNat_natCast, hAD] at this
        exact this
      have hol := lens_len hlens
      have h1 : 0 < os[q].fs.length := by
        rw [lens_get hlens q (by omega) (by omega), fill_len ns q (by omega) hqn]
        exact (G.each _ (List.getElem_mem _)).1
      have hSt : Calls Try.prog 25 #[.pointer (some ⟨g2, 0, none⟩), .int .i64 AD, .int .i64 0, .int .u64 v] wr fun e w' => e = .returned (.int .i64 0) ∧ Dup w w' g (stF W ns) g2 { stF W ns with os := putO os q 0 v } (.slice (some ⟨ga, 0, none⟩) ns.length ca) (.slice As ns.length cs) (heads 1 (fillOs ns)) (ints ns) := by
        have h := D.store2 q 0 v (show q < os.length by omega) h1 hv
        rw [show ({ stF W ns with os := os } : St).f + (pos ({ stF W ns with os := os } : St).os q : Int) = AD by
          rw [← hAD, ← pos_lens hlens]; show (stF W ns).f + _ = _; rw [stF_f]] at h
        exact h
      have ne0 : ((0 : Int) != 0) = false := rfl
      go_wp2_with (first
        | (go_at_call 25; (with_reducible refine hSt.mono ?_); clear hSt; rintro e w4 ⟨rfl, D4⟩))
      go_roundw
      case rel => exact ⟨q + 1, _, by simp, by omega, (lens_put os q 0 v).trans hlens, D4⟩
      case measure => simp [intOf]; omega
    · have t1 : decide ((q : Int) < (ns.length : Int)) = false := decide_eq_false (by omega)
      have hAl : Calls Try.prog 21 #[.pointer (some ⟨g2, 0, none⟩), .int .i64 2, .int .i64 1, .int .i64 1] wr _ := D.alloc2 2 1 1 rfl
      go_wp2_with (first
        | (go_at_call 21; (with_reducible refine hAl.mono ?_); clear hAl; rintro e w5 ⟨⟨x5, y5, rfl⟩, F5⟩
           have hHo := fil_holds G F5.one.2 Aa As ca cs F5.ra F5.rs)
        | (go_at_call 27; (with_reducible refine hHo.mono ?_); clear hHo; rintro e w6 ⟨rfl, hd6⟩
           have F6 := F5.drawn hd6
           have hCp := F6.copy)
        | (go_at_call 31; (with_reducible refine hCp.mono ?_); clear hCp; rintro e w7 ⟨g3, rfl, D7⟩
           have hFl := D7.flip1)
        | (go_at_call 28; (with_reducible refine hFl.mono ?_); clear hFl; rintro e w8 ⟨rfl, D8⟩
           obtain ⟨T8, M8⟩ := D8.two
           have hHo := fil_holds G M8 Aa As ca cs D8.fil.ra D8.fil.rs)
        | (go_at_call 27; (with_reducible refine hHo.mono ?_); clear hHo; rintro e w9 ⟨rfl, hd9⟩
           have D9 := D8.drawn hd9
           obtain ⟨T9, M9⟩ := D9.two
           have hH0 : Calls Try.prog 30 #[.pointer (some ⟨g3, 0, none⟩)] w9 fun e w' => e = .returned (.int .i64 0) ∧ w' = w9 := M9.halfc
           have hH1 : Calls Try.prog 30 #[.pointer (some ⟨g, 0, none⟩)] w9 fun e w' => e = .returned (.int .i64 1) ∧ w' = w9 := D9.fil.one.2.halfc)
        | (go_at_call 30; (with_reducible refine hH0.mono ?_); clear hH0; rintro e w10 ⟨rfl, rfl⟩)
        | (go_at_call 30; (with_reducible refine hH1.mono ?_); clear hH1; rintro e w11 ⟨rfl, rfl⟩)
        | (go_at_call 18; (with_reducible refine (known_any _).mono ?_); rintro e w12 ⟨rfl, hB12⟩))
      go_ret
      exact ⟨rfl, D9.fil.one.end_ hB12⟩
theorem copies_walk (a0 : Int) (a1 : Option Addr) (len1 cap1 : Nat) (z1 : List Int) (a2 : Int) (w : World) (_ : (Lit.int .i64 a0).wf = true)
    (w1 : (a1 = none ∧ len1 = 0 ∧ cap1 = 0 ∧ z1 = []) ∨ ∃ x, a1 = some x ∧ len1 ≤ cap1 ∧ cap1 ≤ maxLen ∧ z1.length = cap1 ∧ (∀ i, i < z1.length → w.cell? (x.add i) = some (.int .i64 (z1.getD i 0))) ∧ ∀ n ∈ z1, (Lit.int .i64 n).wf = true) (y1 : len1 * 8 ≤ 140737488351232)
    (w2 : (Lit.int .u64 a2).wf = true) :
    Calls Try.prog 9 #[.int .i64 a0, .slice a1 len1 cap1, .int .u64 a2] w fun e w' => e = .returned (.bool true) ∧ Below w.heap.size w w' := by
  obtain ⟨l1, rfl, hr1, hm1, hw1, hc1⟩ := ReadsInt.ofRowC w1
  exact copies_any a0 a1 cap1 l1 a2 w (Kd.C_of_reads (d := (0 : Int)) (h1 := fun _ => rfl) hr1) hc1 (wf_u64 w2)
end Go.Proofs.Ytaliolnndbnfhaa.Mem
