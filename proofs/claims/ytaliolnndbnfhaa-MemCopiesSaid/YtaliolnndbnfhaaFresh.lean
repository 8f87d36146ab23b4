/- A new object is empty, and behind two changes of halves nothing is left: the walks of the laws MemFresh and MemTwice. -/
import Derived.Test.YtaliolnndbnfhaaMem9
namespace Go.Proofs.Ytaliolnndbnfhaa.Mem
open Go.RowKit Go.Proofs.YtaliolnndbnfhaaW.PrintWords Go.Proofs.YtaliolnndbnfhaaW.PrintLast Go.Proofs.YtaliolnndbnfhaaW.PrintMore
open Hf (rightB hdr headOf partsOf w64_of)
set_option linter.unusedSimpArgs false
set_option linter.unusedVariables false
variable {S : Nat → Prop} {w w' w0 : World} {g : Nat} {st : St} {va vs : Value} {ads ss : List Int}
theorem new_val (k : Int) (n t i : Nat) (ht : t ≤ n) (hi : i < n) : (newO k n t).fs.getD i 0 = if i < t then 1 else 0 := by
  simp only [newO, List.getD]
  by_cases h : i < t
  · rw [List.getElem?_append_left (by simpa using h), if_pos h]
    simp [h]
  · rw [List.getElem?_append_right (by simp; omega), if_neg h, List.getElem?_replicate]
    split <;> rfl
theorem Fil.load (F : Fil w0 w g st va vs ads ss) (i j : Nat) (hi : i < st.os.length) (hj : j < st.os[i].fs.length) :
    Calls Try.prog 26 #[.pointer (some ⟨g, 0, none⟩), .int .i64 (st.f + (pos st.os i : Int)), .int .i64 j] w fun e w' => e = .returned (.tuple #[.int .u64 (st.os[i].fs.getD j 0), .int .i64 0]) ∧ Fil w0 w' g st va vs ads ss :=
  (F.one.2.load i j hi hj).mono (fun e w' h => ⟨h.1, F.drawn h.2⟩)
theorem Fil.load_no (F : Fil w0 w g st va vs ads ss) (a x : Int) (ha : -9223372036854775808 ≤ a ∧ a ≤ 9223372036854775807) (hx : -9223372036854775808 ≤ x ∧ x ≤ 9223372036854775807) (hn : NoField st.f st.os a x) :
    Calls Try.prog 26 #[.pointer (some ⟨g, 0, none⟩), .int .i64 a, .int .i64 x] w fun e w' => e = .returned (.tuple #[.int .u64 0, .int .i64 20]) ∧ Fil w0 w' g st va vs ads ss :=
  (F.one.2.load_no a x ha hx hn).mono (fun e w' h => ⟨h.1, F.drawn h.2⟩)
/-- The state behind two changes. -/
def st2 (W : Nat) : St := ⟨(W : Int), 0, [], [], .map []⟩
theorem flip_two {W : Nat} {ns : List Nat} : (stF W ns).flip.flip = st2 W := by
  unfold St.flip stF st2
  simp
theorem st2_f (W : Nat) : (st2 W).f = 1 := by simp [St.f, st2]
set_option maxHeartbeats 8000000 in
set_option maxRecDepth 100000 in
theorem fresh_any (a0 : Int) (A : Option Addr) (c : Nat) (row : List Int) (a2 a3 : Int) (w : World) (hC : Kd.C (Kd.int .i64) w A row.length row) (hc : row.length ≤ c) :
    Calls Try.prog 7 #[.int .i64 a0, .slice A row.length c, .int .i64 a2, .int .i64 a3] w fun e w' => e = .returned (.bool true) ∧ Below w.heap.size w w' := by
  obtain ⟨n, hn, hn60⟩ := among_f a2 60 (by decide) (by decide)
  obtain ⟨t, ht, htn⟩ := among_f a3 ((n : Int) + 1) (by omega) (by omega)
  have htn' : t ≤ n := by omega
  have hn100 : (n : Int) ≤ 60 := by omega
  go_enter Try.func7, Try.ntmps7
  go_wp2_with (first
    | (go_at_call 23; (with_reducible refine (filled_any a0 A c row _ hC hc).mono ?_); rintro e w1 ⟨g, W, ns, va, vs, rfl, G, F⟩
       have hW1 := G.w1
       have hFl := F.flip)
    | (go_at_call 28; (with_reducible refine hFl.mono ?_); clear hFl; rintro e w2 ⟨rfl, F2⟩
       have hFl2 := F2.flip
       rw [flip_two] at hFl2)
    | (go_at_call 28; (with_reducible refine hFl2.mono ?_); clear hFl2; rintro e w3 ⟨rfl, F3⟩)
    | (go_at_call 19; (with_reducible refine (among_any a2 60 n _ hn).mono ?_); rintro e w4 ⟨rfl, hd4⟩
       have F4 := F3.drawn hd4)
    | (go_at_call 19; (with_reducible refine (among_any a3 ((n : Int) + 1) t _ ht).mono ?_); rintro e w5 ⟨rfl, hd5⟩
       have F5 := F4.drawn hd5
       have hA : Calls Try.prog 21 #[.pointer (some ⟨g, 0, none⟩), .int .i64 5, .int .i64 n, .int .i64 t] w5 fun e w' => e = .returned (.tuple #[.int .i64 1, .int .i64 0]) ∧ Fil w w' g { st2 W with os := [newO 5 n t] } va vs (heads 1 (fillOs ns)) (ints ns) := by
         refine (F5.alloc 5 n t (code_right n t (by omega) htn') (by show ((flat ([] : List O)).length : Int) + n + 1 ≤ (W : Int); simp [flat]; omega)).mono ?_
         rintro e w' ⟨h1, h2⟩
         refine ⟨h1.trans ?_, h2⟩
         rw [st2_f]
         rfl)
    | (go_at_call 21; (with_reducible refine hA.mono ?_); clear hA; rintro e w6 ⟨rfl, F6⟩))
  go_loopw [16] (fun i wr => ∃ q : Nat, i = .int .i64 q ∧ q ≤ n ∧ Fil w wr g { st2 W with os := [newO 5 n t] } va vs (heads 1 (fillOs ns)) (ints ns)) (fun i _ => n - (intOf i).toNat)
  case atStart => exact ⟨0, rfl, Nat.zero_le _, F6⟩
  case round =>
    clear F6 F5 F4 F3 F2 F
    obtain ⟨q, rfl, hq, F7⟩ := hrel
    by_cases hqn : q < n
    · have t1 : decide ((q : Int) < (n : Int)) = true := decide_eq_true (by omega)
      have hL : Calls Try.prog 26 #[.pointer (some ⟨g, 0, none⟩), .int .i64 1, .int .i64 q] wr fun e w' => e = .returned (.tuple #[.int .u64 (if q < t then 1 else 0), .int .i64 0]) ∧ Fil w w' g { st2 W with os := [newO 5 n t] } va vs (heads 1 (fillOs ns)) (ints ns) := by
        have := F7.load 0 q (by show 0 < [newO 5 n t].length; simp) (by show q < (newO 5 n t).fs.length; rw [newO_len 5 n t htn']; exact hqn)
        have hv : ([newO 5 n t] : List O)[0].fs.getD q 0 = if q < t then 1 else 0 := new_val 5 n t q htn' hqn
        rw [show ({ st2 W with os := [newO 5 n t] } : St).f = 1 from st2_f W] at this
        refine this.mono ?_
        rintro e w' ⟨h1, h2⟩
        refine ⟨h1.trans ?_, h2⟩
        show Ending.returned (.tuple #[.int .u64 (([newO 5 n t] : List O)[0].fs.getD q 0), .int .i64 0]) = _
        rw [hv]
      by_cases hqt : q < t
      · have t2 : decide ((q : Int) < (t : Int)) = true := decide_eq_true (by omega)
        have t3 : decide ((q : Int) ≥ (t : Int)) = false := decide_eq_false (by omega)
        rw [if_pos hqt] at hL
        go_wp2_with (first
          | (go_at_call 26; (with_reducible refine hL.mono ?_); clear hL; rintro e w8 ⟨rfl, F8⟩))
        go_roundw
        case rel => exact ⟨q + 1, by simp, by omega, F8⟩
        case measure => simp [intOf]; omega
      · have t2 : decide ((q : Int) < (t : Int)) = false := decide_eq_false (by omega)
        have t3 : decide ((q : Int) ≥ (t : Int)) = true := decide_eq_true (by omega)
        rw [if_neg hqt] at hL
        go_wp2_with (first
          | (go_at_call 26; (with_reducible refine hL.mono ?_); clear hL; rintro e w8 ⟨rfl, F8⟩))
        go_roundw
        case rel => exact ⟨q + 1, by simp, by omega, F8⟩
        case measure => simp [intOf]; omega
    · have t1 : decide ((q : Int) < (n : Int)) = false := decide_eq_false (by omega)
      go_wp2_with (first
        | (go_at_call 18; (with_reducible refine (known_any _).mono ?_); rintro e w9 ⟨rfl, hB9⟩))
      go_ret
      exact ⟨rfl, F7.one.end_ hB9⟩
theorem fresh_walk (a0 : Int) (a1 : Option Addr) (len1 cap1 : Nat) (z1 : List Int) (a2 a3 : Int) (w : World) (_ : (Lit.int .i64 a0).wf = true)
    (w1 : (a1 = none ∧ len1 = 0 ∧ cap1 = 0 ∧ z1 = []) ∨ ∃ x, a1 = some x ∧ len1 ≤ cap1 ∧ cap1 ≤ maxLen ∧ z1.length = cap1 ∧ (∀ i, i < z1.length → w.cell? (x.add i) = some (.int .i64 (z1.getD i 0))) ∧ ∀ n ∈ z1, (Lit.int .i64 n).wf = true) (y1 : len1 * 8 ≤ 140737488351232)
    (_ : (Lit.int .i64 a2).wf = true) (_ : (Lit.int .i64 a3).wf = true) :
    Calls Try.prog 7 #[.int .i64 a0, .slice a1 len1 cap1, .int .i64 a2, .int .i64 a3] w fun e w' => e = .returned (.bool true) ∧ Below w.heap.size w w' := by
  obtain ⟨l1, rfl, hr1, hm1, hw1, hc1⟩ := ReadsInt.ofRowC w1
  exact fresh_any a0 a1 cap1 l1 a2 a3 w (Kd.C_of_reads (d := (0 : Int)) (h1 := fun _ => rfl) hr1) hc1
end Go.Proofs.Ytaliolnndbnfhaa.Mem
