/- What the functions of a header compute. -/
import Derived.Test.YtjccaojlldkmpaaHd1
import Derived.Laws.BitsAllLaws
namespace Go.Proofs.Ytjccaojlldkmpaa.Hf
open Go.RowKit Go.Proofs.Ytjccaojlldkmpaa.Hd Go.Proofs.YtjccaojlldkmpaaW.PrintWords Go.Proofs.YtjccaojlldkmpaaW.PrintLast Go.Proofs.YtjccaojlldkmpaaW.PrintMore
set_option linter.unusedVariables false
/-- Are they a header's parts? -/
def rightB (k s t : Int) : Bool :=
  if s < 0 ∨ s > 16384 ∨ t < 0 ∨ t > s then false
  else if k = 1 ∨ k = 3 then decide (0 < s) && (t == s)
  else if k = 2 then (s == 1) && (t == 1)
  else if k = 4 then decide (0 < s) && (t == 0)
  else k == 5
/-- A header's word. -/
def hdr (k s t : Int) : Int := 1 + 2 * k + 16 * s + 268435456 * t
theorem right_parts {k s t : Int} (h : rightB k s t = true) : 1 ≤ k ∧ k ≤ 5 ∧ 0 ≤ s ∧ s ≤ 16384 ∧ 0 ≤ t ∧ t ≤ s := by
  unfold rightB at h
  split at h
  · exact absurd h (by decide)
  · split at h
    · omega
    · split at h
      · omega
      · split at h
        · omega
        · have := beq_iff_eq.1 h; omega
theorem right_f (n : Nat) (k s t : Int) : mem_right.f (n + 2) k s t = some (rightB k s t) := by
  have hbad : mem_right.j0 (n + 2) k s t true = some false := by simp only [mem_right.j0, if_true]
  unfold mem_right.f rightB
  by_cases h1 : s < 0
  · rw [if_pos h1, hbad, if_pos (.inl h1)]
  · rw [if_neg h1]
    by_cases h2 : s > 16384
    · rw [if_pos h2, hbad, if_pos (.inr (.inl h2))]
    · rw [if_neg h2]
      by_cases h3 : t < 0
      · rw [if_pos h3, hbad, if_pos (.inr (.inr (.inl h3)))]
      · rw [if_neg h3]
        by_cases h4 : t > s
        · rw [decide_eq_true h4, hbad, if_pos (.inr (.inr (.inr h4)))]
        · rw [decide_eq_false h4, if_neg (by omega)]
          simp only [mem_right.j0]
          rw [if_neg (by decide)]
          by_cases k1 : k = 1
          · rw [if_pos k1, if_pos (.inl k1)]
            simp only [mem_right.j1]
            rw [if_pos (by simpa using k1)]
            by_cases hs : s > 0
            · rw [if_pos hs, decide_eq_true (show 0 < s from hs), Bool.true_and]
            · rw [if_neg hs, decide_eq_false (show ¬ 0 < s from hs), Bool.false_and]
          · rw [if_neg k1]
            by_cases k3 : k = 3
            · rw [if_pos (.inr k3)]
              simp only [mem_right.j1]
              rw [if_pos (by simpa using k3)]
              by_cases hs : s > 0
              · rw [if_pos hs, decide_eq_true (show 0 < s from hs), Bool.true_and]
              · rw [if_neg hs, decide_eq_false (show ¬ 0 < s from hs), Bool.false_and]
            · rw [if_neg (show ¬ (k = 1 ∨ k = 3) by omega)]
              simp only [mem_right.j1]
              rw [if_neg (by simpa using k3)]
              by_cases k2 : k = 2
              · rw [if_pos k2, if_pos k2]
                by_cases hs : s = 1
                · rw [if_pos hs, hs]; rfl
                · rw [if_neg hs, beq_eq_false_iff_ne.2 hs, Bool.false_and]
              · rw [if_neg k2, if_neg k2]
                by_cases k4 : k = 4
                · rw [if_pos k4, if_pos k4]
                  by_cases hs : s > 0
                  · rw [if_pos hs, decide_eq_true (show 0 < s from hs), Bool.true_and]
                  · rw [if_neg hs, decide_eq_false (show ¬ 0 < s from hs), Bool.false_and]
                · rw [if_neg k4, if_neg k4]
theorem or_low (i : Nat) (x y : Int) (hx0 : 0 ≤ x) (hx : x.toNat < 2 ^ i) (hx2 : x < 18446744073709551616) (hy0 : 0 ≤ y) (hyi : y.toNat % 2 ^ i = 0) (hy2 : y < 18446744073709551616) : Go.bits .or .u64 x y = x + y := by
  rw [u64_or x y hx0 hx2 hy0 hy2, Nat.or_comm, nat_join i _ _ hyi hx]
  omega
/-- A header's word, or none. -/
def headOf (k s t : Int) : Int × Int := if rightB k s t = true then (hdr k s t, 0) else (0, 22)
theorem header_f (n : Nat) (k s t : Int) : mem_Header.f (n + 2) k s t = some (headOf k s t) := by
  unfold mem_Header.f headOf
  rw [right_f, Option.bind_some]
  by_cases h : rightB k s t = true
  · rw [if_pos h, if_pos h]
    obtain ⟨h1, h2, h3, h4, h5, h6⟩ := right_parts h
    congr 2
    simp only [IntKind.wrap_u64]
    rw [show k % 18446744073709551616 = k by omega, show s % 18446744073709551616 = s by omega, show t % 18446744073709551616 = t by omega, show k * 2 % 18446744073709551616 = k * 2 by omega,
      show s * 16 % 18446744073709551616 = s * 16 by omega, show t * 268435456 % 18446744073709551616 = t * 268435456 by omega]
    unfold hdr
    rw [or_low 1 1 (k * 2) (by omega) (by omega) (by omega) (by omega) (by omega) (by omega), or_low 4 _ (s * 16) (by omega) (by omega) (by omega) (by omega) (by omega) (by omega),
      or_low 28 _ (t * 268435456) (by omega) (by omega) (by omega) (by omega) (by omega) (by omega)]
    omega
  · rw [if_neg h, if_neg h]
theorem and_mask (i : Nat) (m : Int) (hm : m = ((2 ^ i - 1 : Nat) : Int)) (hm2 : m < 18446744073709551616) (x : Int) (h0 : 0 ≤ x) (h : x < 18446744073709551616) : Go.bits .and .u64 x m = x % ((2 ^ i : Nat) : Int) := by
  rw [u64_and x m h0 h (by omega) hm2]
  have := Nat.and_two_pow_sub_one_eq_mod x.toNat i
  rw [show m.toNat = 2 ^ i - 1 by omega, this, Int.natCast_emod, Int.toNat_of_nonneg h0]
theorem w64_of {n : Int} (h : -9223372036854775808 ≤ n ∧ n ≤ 9223372036854775807) : wrap64 n = n := by unfold wrap64; omega
/-- What a header says. -/
def partsOf (h : Int) : Int × Int × Int × Bool :=
  if headOf (h / 2 % 8) (h / 16 % 16777216) (h / 268435456 % 16777216) = (h, 0) then (h / 2 % 8, h / 16 % 16777216, h / 268435456 % 16777216, true) else (0, 0, 0, false)
theorem parts_f (n : Nat) (h : Int) (h0 : 0 ≤ h) (h1 : h < 18446744073709551616) : mem_Parts.f (n + 2) h = some (partsOf h) := by
  unfold mem_Parts.f partsOf
  rw [and_mask 3 7 rfl (by decide) (h / 2) (by omega) (by omega), and_mask 24 16777215 rfl (by decide) (h / 16) (by omega) (by omega), and_mask 24 16777215 rfl (by decide) (h / 268435456) (by omega) (by omega)]
  rw [show ((2 ^ 3 : Nat) : Int) = 8 from rfl, show ((2 ^ 24 : Nat) : Int) = 16777216 from rfl]
  rw [w64_of (n := h / 2 % 8) (by omega), w64_of (n := h / 16 % 16777216) (by omega), w64_of (n := h / 268435456 % 16777216) (by omega), header_f, Option.bind_some]
  generalize headOf (h / 2 % 8) (h / 16 % 16777216) (h / 268435456 % 16777216) = p
  obtain ⟨p1, p2⟩ := p
  show (if p2 = 0 then _ else _) = _
  by_cases e2 : p2 = 0
  · rw [if_pos e2]
    by_cases e1 : p1 = h
    · subst e1 e2; rw [if_pos rfl, if_pos rfl]
    · rw [if_neg (show ¬ (p1, p2).1 = h from e1), if_neg (by intro e; injection e with e _; exact e1 e)]
  · rw [if_neg e2, if_neg (by intro e; injection e with _ e; exact e2 e)]
theorem parts_hdr {k s t : Int} (h : rightB k s t = true) : partsOf (hdr k s t) = (k, s, t, true) := by
  obtain ⟨h1, h2, h3, h4, h5, h6⟩ := right_parts h
  have e1 : hdr k s t / 2 % 8 = k := by unfold hdr; omega
  have e2 : hdr k s t / 16 % 16777216 = s := by unfold hdr; omega
  have e3 : hdr k s t / 268435456 % 16777216 = t := by unfold hdr; omega
  unfold partsOf headOf
  rw [e1, e2, e3, if_pos h, if_pos rfl]
theorem hdr_u64 {k s t : Int} (h : rightB k s t = true) : 0 ≤ hdr k s t ∧ hdr k s t < 18446744073709551616 := by
  obtain ⟨h1, h2, h3, h4, h5, h6⟩ := right_parts h
  unfold hdr; omega
theorem int_f (a : Int) (h : 0 ≤ a ∧ a ≤ 1000000) : num_Int.f a = some (2 * a + 1) := by
  unfold num_Int.f
  simp only [IntKind.wrap_u64]
  rw [show a % 18446744073709551616 = a by omega, show a * 2 % 18446744073709551616 = a * 2 by omega]
  have e : Go.bits .or .u64 (a * 2) 1 = a * 2 + 1 := by
    rw [u64_or (a * 2) 1 (by omega) (by omega) (by decide) (by decide), nat_join 1 _ _ (by omega) (by decide)]
    omega
  rw [e]
  congr 1
  omega
end Go.Proofs.Ytjccaojlldkmpaa.Hf
