/- Objects stand one behind the other without a gap: the walk of the law MemRoom. -/
import Derived.Test.YtaliolnndbnfhaaFill
namespace Go.Proofs.Ytaliolnndbnfhaa.Mem
open Go.RowKit Go.Proofs.YtaliolnndbnfhaaW.PrintWords Go.Proofs.YtaliolnndbnfhaaW.PrintLast Go.Proofs.YtaliolnndbnfhaaW.PrintMore
open Hf (rightB hdr headOf partsOf w64_of)
set_option linter.unusedSimpArgs false
set_option linter.unusedVariables false
theorem ints_get (ns : List Nat) (k : Nat) (h : k < ns.length) : rdOf 0 (ints ns) (k : Int) = (ns[k] : Int) := by
  unfold rdOf ints
  rw [Int.toNat_natCast]
  simp [List.getD, h]
theorem fill_pos (ns : List Nat) (k : Nat) (h : k < ns.length) : pos (fillOs ns) (k + 1) = pos (fillOs ns) k + (ns[k] + 1) := by
  have hl := fillOs_length ns
  rw [pos_succ _ _ (by omega), fillOs_get ns k (by omega) h, show (fillO k ns[k]).fs.length = ns[k] from partO_len _ _ _ (Nat.le_refl _)]
theorem fill_all (ns : List Nat) : pos (fillOs ns) ns.length = (flat (fillOs ns)).length := by rw [← fillOs_length ns, pos_all]
theorem pos_mono (os : List O) (i : Nat) (h : i ≤ os.length) : pos os i ≤ (flat os).length := by
  by_cases e : i = os.length
  · subst e; rw [pos_all]; exact Nat.le_refl _
  · have := pos_lt os i os.length (by omega) (Nat.le_refl _)
    rw [pos_all] at this
    omega
set_option maxHeartbeats 8000000 in
set_option maxRecDepth 100000 in
theorem room_any (a0 : Int) (A : Option Addr) (c : Nat) (row : List Int) (w : World) (hC : Kd.C (Kd.int .i64) w A row.length row) (hc : row.length ≤ c) :
    Calls Try.prog 8 #[.int .i64 a0, .slice A row.length c] w fun e w' => e = .returned (.bool true) ∧ Below w.heap.size w w' := by
  go_enter Try.func8, Try.ntmps8
  go_wp2_with (first
    | (go_at_call 23; (with_reducible refine (filled_any a0 A c row _ hC hc).mono ?_); rintro e w1 ⟨g, W, ns, va, vs, rfl, G, F⟩
       have hal := heads_length 1 (fillOs ns)
       have hll := fillOs_length ns
       obtain ⟨Aa, ca, rfl⟩ := Kd.R_slice F.ra
       obtain ⟨As, cs, rfl⟩ := Kd.R_slice F.rs
       have hil : (ints ns).length = ns.length := by simp [ints]
       rw [hal, hll, hil] at F ⊢
       have hM := G.many
       have hfit := G.fit
       have hW2 := G.w2))
  go_loop [8, 9] (fun nx i => ∃ k : Nat, k ≤ ns.length ∧ i = .int .i64 k ∧ nx = .int .i64 (1 + (pos (fillOs ns) k : Int))) (fun _ i => ns.length - (intOf i).toNat)
  case atStart => exact ⟨0, Nat.zero_le _, rfl, by simp [pos, flat]⟩
  case round =>
    obtain ⟨k, hk, rfl, rfl⟩ := hrel
    have hpm := pos_mono (fillOs ns) k (by omega)
    by_cases hlt : k < ns.length
    · have t1 : decide ((k : Int) < (ns.length : Int)) = true := decide_eq_true (by omega)
      have hi0 : decide (0 ≤ (k : Int)) = true := decide_eq_true (by omega)
      obtain ⟨ga, ca', ea, -⟩ := Kd.R_form F.ra (by omega)
      obtain ⟨gs, cs', es, -⟩ := Kd.R_form F.rs (by omega)
      injection ea with ea1 ea2 ea3
      injection es with es1 es2 es3
      subst ea1 es1
      have hca := (Kd.R_celln (0 : Int) F.ra (k : Int) (by omega) (by omega)).1
      have hcs := (Kd.R_celln (0 : Int) F.rs (k : Int) (by omega) (by omega)).1
      rw [heads_getD 1 _ k (by omega), Int.toNat_natCast] at hca
      rw [ints_get ns k hlt, Int.toNat_natCast] at hcs
      have hne : ((1 + (pos (fillOs ns) k : Int)) != (1 + (pos (fillOs ns) k : Int))) = false := by simp
      have hp := fill_pos ns k hlt
      have hn8 := G.each _ (List.getElem_mem hlt)
      obtain ⟨N, hN⟩ : ∃ N : Nat, ns[k] = N := ⟨_, rfl⟩
      rw [hN] at hcs hp hn8
      have hN8 : (N : Int) ≤ 8 := by omega
      have hpW : (pos (fillOs ns) k : Int) ≤ 500 := by omega
      clear ea2 ea3 es2 es3
      go_wp2_with fail
      go_round
      case rel => exact ⟨k + 1, by omega, by simp, by congr 1; omega⟩
      case measure => simp [intOf]; omega
    · obtain rfl : k = ns.length := by omega
      have t1 : decide ((ns.length : Int) < (ns.length : Int)) = false := decide_eq_false (by omega)
      rw [fill_all]
      obtain ⟨P, hP⟩ : ∃ P : Nat, (flat (fillOs ns)).length = P := ⟨_, rfl⟩
      rw [hP] at hfit ⊢
      obtain ⟨Q, hQ⟩ : ∃ Q : Nat, 1 + (P : Int) = (Q : Int) := ⟨1 + P, by omega⟩
      obtain ⟨Z, hZ⟩ : ∃ Z : Nat, (W : Int) - (P : Int) = (Z : Int) := ⟨W - P, by omega⟩
      have hZ2 : (W : Int) - (Q : Int) + 1 = (Z : Int) := by omega
      rw [hQ]
      have M1 := F.one
      have hNx : Calls Try.prog 24 #[.pointer (some ⟨g, 0, none⟩)] w1 fun e w' => e = .returned (.int .i64 (Q : Int)) ∧ Drawn0 w1 w' := (M1.2.next).mono (fun e w' h => ⟨h.1.trans (congrArg (fun z => Ending.returned (.int .i64 z)) (by rw [stF_f, show ((flat (stF W ns).os).length : Int) = (P : Int) from congrArg (fun (z : Nat) => (z : Int)) hP]; exact hQ)), h.2⟩)
      go_wp2_with (first
        | (go_at_call 24; (with_reducible refine hNx.mono ?_); clear hNx; rintro e w2 ⟨rfl, hd2⟩
           have M2 := M1.drawn hd2
           have hFr : Calls Try.prog 22 #[.pointer (some ⟨g, 0, none⟩)] w2 fun e w' => e = .returned (.int .i64 (Z : Int)) ∧ Drawn0 w2 w' := (M2.2.free).mono (fun e w' h => ⟨h.1.trans (congrArg (fun z => Ending.returned (.int .i64 z)) (by rw [show ((flat (stF W ns).os).length : Int) = (P : Int) from congrArg (fun (z : Nat) => (z : Int)) hP]; exact hZ)), h.2⟩))
        | (go_at_call 22; (with_reducible refine hFr.mono ?_); clear hFr; rintro e w3 ⟨rfl, hd3⟩
           have M3 := M2.drawn hd3
           have hWd : Calls Try.prog 29 #[.pointer (some ⟨g, 0, none⟩)] w3 fun e w' => e = .returned (.int .i64 (W : Int)) ∧ w' = w3 := M3.2.words)
        | (go_at_call 29; (with_reducible refine hWd.mono ?_); clear hWd; rintro e w4 ⟨rfl, rfl⟩
           have hHf : Calls Try.prog 30 #[.pointer (some ⟨g, 0, none⟩)] w4 fun e w' => e = .returned (.int .i64 0) ∧ w' = w4 := M3.2.halfc)
        | (go_at_call 30; (with_reducible refine hHf.mono ?_); clear hHf; rintro e w5 ⟨rfl, rfl⟩)
        | (go_at_call 18; (with_reducible refine (known_any _).mono ?_); rintro e w6 ⟨rfl, hB6⟩))
      go_ret
      exact ⟨rfl, M3.end_ hB6⟩
theorem room_walk (a0 : Int) (a1 : Option Addr) (len1 cap1 : Nat) (z1 : List Int) (w : World) (_ : (Lit.int .i64 a0).wf = true)
    (w1 : (a1 = none ∧ len1 = 0 ∧ cap1 = 0 ∧ z1 = []) ∨ ∃ x, a1 = some x ∧ len1 ≤ cap1 ∧ cap1 ≤ maxLen ∧ z1.length = cap1 ∧ (∀ i, i < z1.length → w.cell? (x.add i) = some (.int .i64 (z1.getD i 0))) ∧ ∀ n ∈ z1, (Lit.int .i64 n).wf = true) (y1 : len1 * 8 ≤ 140737488351232) :
    Calls Try.prog 8 #[.int .i64 a0, .slice a1 len1 cap1] w fun e w' => e = .returned (.bool true) ∧ Below w.heap.size w w' := by
  obtain ⟨l1, rfl, hr1, hm1, hw1, hc1⟩ := ReadsInt.ofRowC w1
  exact room_any a0 a1 cap1 l1 w (Kd.C_of_reads (d := (0 : Int)) (h1 := fun _ => rfl) hr1) hc1
end Go.Proofs.Ytaliolnndbnfhaa.Mem
