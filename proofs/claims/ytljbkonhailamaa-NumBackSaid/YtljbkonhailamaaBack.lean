/- What is written of an integer is read as it, and a text that is an integer's comes back: the walk of the law. -/
import Derived.Test.YtljbkonhailamaaTextFacts
namespace Go.Proofs.Ytljbkonhailamaa.Bk
open Go.RowKit
open Num (textOf digs parseOf fitZ val bts byteB)

theorem known_any (w : World) : Calls Try.prog 19 #[] w fun e w' => e = .returned (.bool true) ∧ Below w.heap.size w w' :=
  Pr.kindlinglaw01_known.calls true w Fa.known_f
theorem parse_text (n : Int) (w : World) (h : fitZ n) : Calls Try.prog 51 #[.string (strOfNums (textOf n))] w fun e w' => e = .returned (.tuple #[.int .i64 n, .int .i64 0]) ∧ Below w.heap.size w w' := by
  have := Num.parse_any (strOfNums (textOf n)) w (by rw [strOfNums_size]; have := Fb.text_len h; omega)
  rw [Num.parseOf_text h] at this
  exact this
theorem parse_none (s : ByteArray) (w : World) (hs : s.size ≤ 140737488351232) (h : ¬ ∃ n, fitZ n ∧ strOfNums (textOf n) = s) : Calls Try.prog 51 #[.string s] w fun e w' => e = .returned (.tuple #[.int .i64 0, .int .i64 11]) ∧ Below w.heap.size w w' := by
  have := Num.parse_any s w hs
  rw [Num.parseOf_no h] at this
  exact this
theorem below_then {B : Nat} {w w1 w2 : World} (h : Below B w w1) (hB : B ≤ w1.heap.size) (k : Below w1.heap.size w1 w2) : Below B w w2 := h.trans (k.mono hB)
theorem text_len (n : Int) (h1 : -9223372036854775808 ≤ n) (h2 : n ≤ 9223372036854775807) : (textOf n).length ≤ 20 := by
  have p1 := Num.digs_pos n.natAbs
  have p2 := Num.digs_len 18 n.natAbs (by omega)
  unfold textOf
  split
  · rw [List.length_cons]; omega
  · omega
set_option maxRecDepth 100000 in
set_option maxHeartbeats 1000000 in
theorem back_walk (n : Int) (s : ByteArray) (w : World) (h1 : -9223372036854775808 ≤ n) (h2 : n ≤ 9223372036854775807) (hs : s.size ≤ 140737488351232) :
    Calls Try.prog 13 #[.int .i64 n, .string s] w fun e w' => e = .returned (.bool true) ∧ Below w.heap.size w w' := by
  by_cases hf : fitZ n
  · by_cases hex : ∃ m, fitZ m ∧ strOfNums (textOf m) = s
    · obtain ⟨m, hm, rfl⟩ := hex
      have hm1 : -9223372036854775808 ≤ m := by have := hm.1; omega
      have hm2 : m ≤ 9223372036854775807 := by have := hm.2; omega
      go_enter Try.func13, Try.ntmps13
      go_wp2_with fail
      (with_reducible refine (Num.text_any n _ h1 h2).mono ?_)
      rintro e w1 ⟨rfl, hB1⟩
      go_wp2_with fail
      (with_reducible refine (parse_text n _ hf).mono ?_)
      rintro e w2 ⟨rfl, hB2⟩
      have hB12 := below_then hB1 hB1.size hB2
      clear hB1 hB2
      go_wp2_with fail
      (with_reducible refine (Num.fit_yes n _ hf).mono ?_)
      rintro e w' ⟨rfl, rfl⟩
      go_wp2_with fail
      (with_reducible refine (parse_text m _ hm).mono ?_)
      rintro e w3 ⟨rfl, hB3⟩
      have hB13 := below_then hB12 hB12.size hB3
      clear hB12 hB3
      go_wp2_with fail
      (with_reducible refine (Num.text_any m _ hm1 hm2).mono ?_)
      rintro e w4 ⟨rfl, hB4⟩
      have hB14 := below_then hB13 hB13.size hB4
      clear hB13 hB4
      go_wp2_with fail
      (with_reducible refine (Num.fit_yes m _ hm).mono ?_)
      rintro e w' ⟨rfl, rfl⟩
      go_wp2_with fail
      refine (known_any _).mono ?_
      rintro e w5 ⟨rfl, hB5⟩
      go_wp2_with fail
      go_ret
      exact ⟨rfl, below_then hB14 hB14.size hB5⟩
    · have hex := hex
      go_enter Try.func13, Try.ntmps13
      go_wp2_with fail
      (with_reducible refine (Num.text_any n _ h1 h2).mono ?_)
      rintro e w1 ⟨rfl, hB1⟩
      go_wp2_with fail
      (with_reducible refine (parse_text n _ hf).mono ?_)
      rintro e w2 ⟨rfl, hB2⟩
      have hB12 := below_then hB1 hB1.size hB2
      clear hB1 hB2
      go_wp2_with fail
      (with_reducible refine (Num.fit_yes n _ hf).mono ?_)
      rintro e w' ⟨rfl, rfl⟩
      go_wp2_with fail
      (with_reducible refine (parse_none s _ hs hex).mono ?_)
      rintro e w3 ⟨rfl, hB3⟩
      have hB14 := below_then hB12 hB12.size hB3
      clear hB12 hB3
      go_wp2_with fail
      refine (known_any _).mono ?_
      rintro e w5 ⟨rfl, hB5⟩
      go_wp2_with fail
      go_ret
      exact ⟨rfl, below_then hB14 hB14.size hB5⟩
  · have hl : (strOfNums (textOf n)).size ≤ 140737488351232 := by rw [strOfNums_size]; have := text_len n h1 h2; omega
    have hnf : ¬ ∃ m, fitZ m ∧ strOfNums (textOf m) = strOfNums (textOf n) := fun ⟨m, hm, h⟩ => hf (by rw [← Num.str_textOf_inj h]; exact hm)
    by_cases hex : ∃ m, fitZ m ∧ strOfNums (textOf m) = s
    · obtain ⟨m, hm, rfl⟩ := hex
      have hm1 : -9223372036854775808 ≤ m := by have := hm.1; omega
      have hm2 : m ≤ 9223372036854775807 := by have := hm.2; omega
      go_enter Try.func13, Try.ntmps13
      go_wp2_with fail
      (with_reducible refine (Num.text_any n _ h1 h2).mono ?_)
      rintro e w1 ⟨rfl, hB1⟩
      go_wp2_with fail
      (with_reducible refine (parse_none _ _ hl hnf).mono ?_)
      rintro e w2 ⟨rfl, hB2⟩
      have hB12 := below_then hB1 hB1.size hB2
      clear hB1 hB2
      go_wp2_with fail
      (with_reducible refine (Num.fit_no n _ hf).mono ?_)
      rintro e w' ⟨rfl, rfl⟩
      go_wp2_with fail
      (with_reducible refine (parse_text m _ hm).mono ?_)
      rintro e w3 ⟨rfl, hB3⟩
      have hB13 := below_then hB12 hB12.size hB3
      clear hB12 hB3
      go_wp2_with fail
      (with_reducible refine (Num.text_any m _ hm1 hm2).mono ?_)
      rintro e w4 ⟨rfl, hB4⟩
      have hB14 := below_then hB13 hB13.size hB4
      clear hB13 hB4
      go_wp2_with fail
      (with_reducible refine (Num.fit_yes m _ hm).mono ?_)
      rintro e w' ⟨rfl, rfl⟩
      go_wp2_with fail
      refine (known_any _).mono ?_
      rintro e w5 ⟨rfl, hB5⟩
      go_wp2_with fail
      go_ret
      exact ⟨rfl, below_then hB14 hB14.size hB5⟩
    · have hex := hex
      go_enter Try.func13, Try.ntmps13
      go_wp2_with fail
      (with_reducible refine (Num.text_any n _ h1 h2).mono ?_)
      rintro e w1 ⟨rfl, hB1⟩
      go_wp2_with fail
      (with_reducible refine (parse_none _ _ hl hnf).mono ?_)
      rintro e w2 ⟨rfl, hB2⟩
      have hB12 := below_then hB1 hB1.size hB2
      clear hB1 hB2
      go_wp2_with fail
      (with_reducible refine (Num.fit_no n _ hf).mono ?_)
      rintro e w' ⟨rfl, rfl⟩
      go_wp2_with fail
      (with_reducible refine (parse_none s _ hs hex).mono ?_)
      rintro e w3 ⟨rfl, hB3⟩
      have hB14 := below_then hB12 hB12.size hB3
      clear hB12 hB3
      go_wp2_with fail
      refine (known_any _).mono ?_
      rintro e w5 ⟨rfl, hB5⟩
      go_wp2_with fail
      go_ret
      exact ⟨rfl, below_then hB14 hB14.size hB5⟩
/-- The walk, in the row's own words. -/
theorem NumBack_walk (n : Int) (s : ByteArray) (w : World) (hn : (Lit.int .i64 n).wf = true) (hs : s.size ≤ 140737488351232) :
    Calls Try.prog 13 #[.int .i64 n, .string s] w fun e w' => e = .returned (.bool true) ∧ Below w.heap.size w w' :=
  back_walk n s w (Fa.wfi hn).1 (Fa.wfi hn).2 hs
end Go.Proofs.Ytljbkonhailamaa.Bk
