/- Objects are made till there is no room: the walk of the law MemFull. -/
import Derived.Test.YtaliolnndbnfhaaMem7
import Derived.Test.YtaliolnndbnfhaaAm1
namespace Go.Proofs.Ytaliolnndbnfhaa.Mem
open Go.RowKit Go.Proofs.YtaliolnndbnfhaaW.PrintWords Go.Proofs.YtaliolnndbnfhaaW.PrintLast Go.Proofs.YtaliolnndbnfhaaW.PrintMore
open Hf (rightB hdr headOf partsOf w64_of)
set_option linter.unusedSimpArgs false
set_option linter.unusedVariables false
theorem among_f (a n : Int) (hn : 1 ≤ n) (hn2 : n ≤ 1000000000) : ∃ r : Nat, Am.kindlingref01_Among.f a n = some (r : Int) ∧ (r : Int) < n := by
  unfold Am.kindlingref01_Among.f
  have h1 : (Int.tmod a n).natAbs < n.natAbs := by rw [Int.natAbs_tmod]; exact Nat.mod_lt _ (by omega)
  rw [if_neg (by omega), if_neg (by omega)]
  by_cases h : Int.tmod a n < 0
  · rw [if_pos h, w64_of (by omega)]
    exact ⟨(Int.tmod a n + n).toNat, by congr 1; omega, by omega⟩
  · rw [if_neg h]
    exact ⟨(Int.tmod a n).toNat, by congr 1; omega, by omega⟩
theorem among_any (a n : Int) (r : Nat) (w : World) (h : Am.kindlingref01_Among.f a n = some (r : Int)) :
    Calls Try.prog 19 #[.int .i64 a, .int .i64 n] w fun e w' => e = .returned (.int .i64 (r : Int)) ∧ Drawn0 w w' := Am.kindlingref01_Among.calls a n r w h
theorem bytes_right (n : Nat) (h1 : 1 ≤ n) (h2 : n ≤ 100) : rightB 4 n (0 : Nat) = true := by
  unfold rightB
  rw [if_neg (by omega), if_neg (by decide), if_neg (by decide), if_pos rfl, decide_eq_true (by omega)]
  rfl
theorem code_right (n t : Nat) (h2 : n ≤ 100) (ht : t ≤ n) : rightB 5 n t = true := by
  unfold rightB
  rw [if_neg (by omega), if_neg (by decide), if_neg (by decide), if_neg (by decide)]
  rfl
theorem One.base {w w1 : World} {m g : Nat} {st : St} (M : One (w.drewN m) w1 g st) : One w w1 g st := ⟨⟨M.1.os, M.1.tape, M.1.output, M.1.size, M.1.block⟩, M.2⟩
theorem One.end_ {w w1 w2 : World} {g : Nat} {st : St} (M : One w w1 g st) (h : Below w1.heap.size w1 w2) : Below w.heap.size w w2 := M.1.trans (h.mono M.1.size)
def Filled (w wr : World) (g : Nat) (W P : Nat) : Prop := ∃ os, One w wr g ⟨(W : Int), 0, os, [], .map []⟩ ∧ (flat os).length = P
set_option maxHeartbeats 4000000 in
set_option maxRecDepth 100000 in
theorem full_any (a0 a1 : Int) (w : World) : Calls Try.prog 5 #[.int .i64 a0, .int .i64 a1] w fun e w' => e = .returned (.bool true) ∧ Below w.heap.size w w' := by
  obtain ⟨r1, hr1, hr1l⟩ := among_f a0 1000 (by decide) (by decide)
  obtain ⟨r2, hr2, hr2l⟩ := among_f a1 60 (by decide) (by decide)
  obtain ⟨W, hW⟩ : ∃ W : Nat, 64 + (r1 : Int) = (W : Int) := ⟨64 + r1, by omega⟩
  obtain ⟨n, hn⟩ : ∃ n : Nat, 1 + (r2 : Int) = (n : Int) := ⟨1 + r2, by omega⟩
  have hWl : W ≤ 1100 := by omega
  have hW0 : 64 ≤ W := by omega
  have hnl : n ≤ 60 := by omega
  have hn0 : 1 ≤ n := by omega
  go_enter Try.func5, Try.ntmps5
  go_wp2_with (first
    | (go_at_call 19; (with_reducible refine (among_any a0 1000 r1 _ hr1).mono ?_); rintro e w1 ⟨rfl, ⟨m1, rfl⟩⟩)
    | (go_at_call 19; (with_reducible refine (among_any a1 60 r2 _ hr2).mono ?_); rintro e w1 ⟨rfl, ⟨m2, rfl⟩⟩)
    | (go_at_call 20; (with_reducible refine (one_new (W : Int) _ (by omega)).mono ?_); rintro e w2 ⟨g, rfl, M0⟩))
  have M1 : Filled w w2 g W 0 := ⟨[], M0.base, rfl⟩
  go_loopw [9] (fun m wr => ∃ j P : Nat, m = .int .i64 j ∧ (j : Int) * ((n : Int) + 1) = (P : Int) ∧ P ≤ W ∧ Filled w wr g W P) (fun m _ => (W : Int).toNat - (intOf m).toNat)
  case atStart => exact ⟨0, 0, rfl, by simp, Nat.zero_le _, M1⟩
  case round =>
    clear M0 M1
    obtain ⟨j, P, rfl, hjP, hPW, os, M, hfl⟩ := hrel
    have hjn : (j : Int) + (j : Int) * (n : Int) = (P : Int) := by rw [← hjP, Int.mul_add, Int.mul_one]; omega
    have hjj : (j : Int) ≤ (j : Int) * (n : Int) := by
      have := Int.mul_le_mul_of_nonneg_left (show (1 : Int) ≤ n by omega) (show (0 : Int) ≤ j by omega)
      rw [Int.mul_one] at this
      exact this
    have hjW : decide ((j : Int) < (W : Int)) = true := decide_eq_true (by omega)
    have hPl : (P : Int) ≤ 1100 := by omega
    by_cases hroom : P + n + 1 ≤ W
    · have hA : Calls Try.prog 21 #[.pointer (some ⟨g, 0, none⟩), .int .i64 4, .int .i64 n, .int .i64 0] wr _ := M.alloc 4 n 0 (bytes_right n hn0 (by omega)) (by show ((flat os).length : Int) + n + 1 ≤ (W : Int); omega)
      go_wp2_with (first
        | (go_at_call 21; (with_reducible refine hA.mono ?_); rintro e w3 ⟨rfl, M2⟩))
      go_roundw
      case rel =>
        refine ⟨j + 1, P + n + 1, by simp, ?_, hroom, _, M2, ?_⟩
        · have : ((j + 1 : Nat) : Int) * ((n : Int) + 1) = (j : Int) * ((n : Int) + 1) + ((n : Int) + 1) := by rw [Int.natCast_add, Int.add_mul]; simp
          rw [this, hjP]; omega
        · rw [flat_new _ _ _ _ (by omega), hfl]
      case measure => simp [intOf]; omega
    · obtain ⟨Lf, hLf⟩ : ∃ Lf : Nat, (W : Int) - (P : Int) = (Lf : Int) := ⟨W - P, by omega⟩
      have hLn : Lf ≤ n := by omega
      have hdiv : (W : Int) / ((n : Int) + 1) = (j : Int) := by
        have e : (W : Int) = (Lf : Int) + (j : Int) * ((n : Int) + 1) := by rw [hjP]; omega
        rw [e, Int.add_mul_ediv_right _ _ (by omega), Int.ediv_eq_zero_of_lt (by omega) (by omega), Int.zero_add]
      have hflw : (W : Int) - ((flat os).length : Int) = (Lf : Int) := by rw [hfl]; exact hLf
      have hA : Calls Try.prog 21 #[.pointer (some ⟨g, 0, none⟩), .int .i64 4, .int .i64 n, .int .i64 0] wr _ := M.2.alloc_full 4 n 0 (bytes_right n hn0 (by omega)) (by show (W : Int) < ((flat os).length : Int) + n + 1; omega)
      by_cases hL0 : Lf = 0
      · have hLf0 : (W : Int) - (P : Int) = 0 := by omega
        have hflw0 : (W : Int) - ((flat os).length : Int) = 0 := by omega
        clear hLf hflw hLn hL0
        go_wp2_with (first
          | (go_at_call 21; (with_reducible refine hA.mono ?_); clear hA; rintro e w3 ⟨rfl, hd3⟩
             have M3 := M.drawn hd3
             have hF : Calls Try.prog 22 #[.pointer (some ⟨g, 0, none⟩)] w3 fun e w' => e = .returned (.int .i64 0) ∧ Drawn0 w3 w' := (M3.2.free).mono (fun e w' h => ⟨h.1.trans (congrArg (fun z => Ending.returned (.int .i64 z)) hflw0), h.2⟩))
          | (go_at_call 22; (with_reducible refine hF.mono ?_); clear hF; rintro e w4 ⟨rfl, hd4⟩
             have M4 := M3.drawn hd4
             have hA2 : Calls Try.prog 21 #[.pointer (some ⟨g, 0, none⟩), .int .i64 5, .int .i64 0, .int .i64 0] w4 _ := M4.2.alloc_full 5 0 0 (code_right 0 0 (by omega) (by omega)) (by show (W : Int) < ((flat os).length : Int) + 0 + 1; omega))
          | (go_at_call 21; (with_reducible refine hA2.mono ?_); clear hA2; rintro e w5 ⟨rfl, hd5⟩
             have M5 := M4.drawn hd5)
          | (go_at_call 18; (with_reducible refine (known_any _).mono ?_); rintro e w6 ⟨rfl, hB6⟩))
        go_ret
        exact ⟨rfl, M5.end_ hB6⟩
      · have hz : ((Lf : Int) == 0) = false := beq_eq_false_iff_ne.2 (by omega)
        obtain ⟨Lm, hLm⟩ : ∃ Lm : Nat, (Lf : Int) - 1 = (Lm : Int) := ⟨Lf - 1, by omega⟩
        go_wp2_with (first
          | (go_at_call 21; (with_reducible refine hA.mono ?_); clear hA; rintro e w3 ⟨rfl, hd3⟩
             have M3 := M.drawn hd3
             have hF : Calls Try.prog 22 #[.pointer (some ⟨g, 0, none⟩)] w3 fun e w' => e = .returned (.int .i64 (Lf : Int)) ∧ Drawn0 w3 w' := (M3.2.free).mono (fun e w' h => ⟨h.1.trans (congrArg (fun z => Ending.returned (.int .i64 z)) hflw), h.2⟩))
          | (go_at_call 22; (with_reducible refine hF.mono ?_); clear hF; rintro e w4 ⟨rfl, hd4⟩
             have M4 := M3.drawn hd4
             have hA2 : Calls Try.prog 21 #[.pointer (some ⟨g, 0, none⟩), .int .i64 5, .int .i64 (Lf : Int), .int .i64 0] w4 _ := M4.2.alloc_full 5 Lf 0 (code_right Lf 0 (by omega) (by omega)) (by show (W : Int) < ((flat os).length : Int) + Lf + 1; omega))
          | (go_at_call 21; (with_reducible refine hA2.mono ?_); clear hA2; rintro e w5 ⟨rfl, hd5⟩
             have M5 := M4.drawn hd5
             have hA3 : Calls Try.prog 21 #[.pointer (some ⟨g, 0, none⟩), .int .i64 5, .int .i64 (Lm : Int), .int .i64 0] w5 _ := M5.alloc 5 Lm 0 (code_right Lm 0 (by omega) (by omega)) (by show ((flat os).length : Int) + Lm + 1 ≤ (W : Int); omega))
          | (go_at_call 21; (with_reducible refine hA3.mono ?_); clear hA3; rintro e w6 ⟨rfl, M6⟩
             have hfl6 : ((flat (os ++ [newO 5 Lm 0])).length : Int) = (W : Int) := by rw [flat_new _ _ _ _ (by omega)]; omega
             have hA4 : Calls Try.prog 21 #[.pointer (some ⟨g, 0, none⟩), .int .i64 5, .int .i64 0, .int .i64 0] w6 _ := M6.2.alloc_full 5 0 0 (code_right 0 0 (by omega) (by omega)) (by show (W : Int) < ((flat (os ++ [newO 5 Lm 0])).length : Int) + 0 + 1; omega))
          | (go_at_call 21; (with_reducible refine hA4.mono ?_); clear hA4; rintro e w7 ⟨rfl, hd7⟩
             have M7 := M6.drawn hd7
             have hF2 : Calls Try.prog 22 #[.pointer (some ⟨g, 0, none⟩)] w7 fun e w' => e = .returned (.int .i64 0) ∧ Drawn0 w7 w' := (M7.2.free).mono (fun e w' h => ⟨h.1.trans (congrArg (fun z => Ending.returned (.int .i64 z)) (by show (W : Int) - ((flat (os ++ [newO 5 Lm 0])).length : Int) = 0; omega)), h.2⟩))
          | (go_at_call 22; (with_reducible refine hF2.mono ?_); clear hF2; rintro e w8 ⟨rfl, hd8⟩
             have M8 := M7.drawn hd8)
          | (go_at_call 18; (with_reducible refine (known_any _).mono ?_); rintro e w9 ⟨rfl, hB9⟩))
        go_ret
        exact ⟨rfl, M8.end_ hB9⟩
theorem full_walk (a0 a1 : Int) (w : World) (_ : (Lit.int .i64 a0).wf = true) (_ : (Lit.int .i64 a1).wf = true) : Calls Try.prog 5 #[.int .i64 a0, .int .i64 a1] w fun e w' => e = .returned (.bool true) ∧ Below w.heap.size w w' := full_any a0 a1 w
end Go.Proofs.Ytaliolnndbnfhaa.Mem
