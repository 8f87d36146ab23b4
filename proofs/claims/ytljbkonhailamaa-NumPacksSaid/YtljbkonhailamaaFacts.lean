/- The plain laws of integers of 63 bits and of words, over what the program's functions compute. -/
import Derived.Test.YtljbkonhailamaaPr
namespace Go.Proofs.Ytljbkonhailamaa.Fa
open Go.RowKit Go.Proofs.Ytljbkonhailamaa.Pr Go.Proofs.YtljbkonhailamaaW.PrintWords Go.Proofs.YtljbkonhailamaaW.PrintLast

/-- A whole number wrapped into 63 bits. -/
def W (n : Int) : Int := (n + 4611686018427387904) % 9223372036854775808 - 4611686018427387904
theorem W_range (n : Int) : -4611686018427387904 ≤ W n ∧ W n ≤ 4611686018427387903 := by unfold W; omega
theorem W_of {n : Int} (h : -4611686018427387904 ≤ n ∧ n ≤ 4611686018427387903) : W n = n := by unfold W; omega
theorem W_spec (x : Int) : ∃ k, W x = x + 9223372036854775808 * k := ⟨-((x + 4611686018427387904) / 9223372036854775808), by unfold W; omega⟩
theorem W_congr {x y : Int} (k : Int) (h : x = y + 9223372036854775808 * k) : W x = W y := by subst h; unfold W; omega
theorem w64 (n : Int) : wrap64 n = (n + 9223372036854775808) % 18446744073709551616 - 9223372036854775808 := by
  unfold wrap64; omega
theorem w64_of {n : Int} (h : -9223372036854775808 ≤ n ∧ n ≤ 9223372036854775807) : wrap64 n = n := by rw [w64]; omega
theorem W_w64 (n : Int) : W (wrap64 n) = W n := by rw [w64]; unfold W; omega
theorem wfi {n : Int} (h : (Lit.int .i64 n).wf = true) : -9223372036854775808 ≤ n ∧ n ≤ 9223372036854775807 := by
  simpa [Lit.wf, IntKind.min, IntKind.max, IntKind.signed, IntKind.bits] using h
theorem wfu {n : Int} (h : (Lit.int .u64 n).wf = true) : 0 ≤ n ∧ n < 18446744073709551616 := by
  have h : 0 ≤ n ∧ n ≤ 18446744073709551615 := by simpa [Lit.wf, IntKind.min, IntKind.max, IntKind.signed, IntKind.bits] using h
  omega

theorem wrap_f (a : Int) : num_Wrap.f a = some (W a) := by
  unfold num_Wrap.f W; rw [w64]; congr 1; omega
theorem add_f (a b : Int) : num_Add.f a b = some (W (a + b)) := by unfold num_Add.f; rw [wrap_f, W_w64]; rfl
theorem sub_f (a b : Int) : num_Sub.f a b = some (W (a - b)) := by unfold num_Sub.f; rw [wrap_f, W_w64]; rfl
theorem mul_f (a b : Int) : num_Mul.f a b = some (W (a * b)) := by unfold num_Mul.f; rw [wrap_f, W_w64]; rfl
theorem neg_f (a : Int) : num_Neg.f a = some (W (-a)) := by unfold num_Neg.f; rw [wrap_f, W_w64]; rfl
theorem fit_f (a : Int) : num_Fit.f a = some (W a == a) := by
  unfold num_Fit.f
  have h : (W a == a) = decide (-4611686018427387904 ≤ a ∧ a ≤ 4611686018427387903) := by
    rw [Bool.eq_iff_iff, beq_iff_eq, decide_eq_true_eq]; unfold W; omega
  rw [h]
  split <;> simp <;> omega

/-- An integer's word. -/
def IU (n : Int) : Int := (2 * n + 1) % 18446744073709551616
theorem int_f (a : Int) : num_Int.f a = some (IU a) := by
  unfold num_Int.f IU
  rw [IntKind.wrap_u64, IntKind.wrap_u64, Num.or_join 1]
  all_goals first | (congr 1; omega) | omega

theorem known_f : kindlinglaw01_known.f = some true := by
  have h1 : num_Div.f (-7) 2 = some (-4, 0) := by
    unfold num_Div.f
    simp only [wrap_f, Option.bind_some]
    decide +kernel
  have h2 : num_Text.f (-5) = some ⟨#[45, 53]⟩ := by
    unfold num_Text.f
    rw [if_pos (by omega), Num.textOf, if_pos (by omega), Num.digs, if_pos (by decide)]
    rfl
  have h3 : num_Ptr.f 3 = some 6 := by
    unfold num_Ptr.f
    rw [if_neg (by omega), if_neg (by omega), IntKind.wrap_u64, IntKind.wrap_u64]
    rfl
  have h4 : ∃ l, num_Pack.f ⟨#[97, 98, 99, 100, 101, 102, 103, 104, 105]⟩ = some l ∧ l.length = 2 := by
    refine ⟨_, if_pos (by decide), ?_⟩
    rw [Num.wordsOf_length, Num.eachL, Num.upto_length]
    rfl
  obtain ⟨l, h4, h5⟩ := h4
  unfold kindlinglaw01_known.f
  rw [h1, add_f]
  simp only [Option.bind_some]
  rw [if_pos (by decide), if_pos trivial, if_pos trivial, h2]
  simp only [Option.bind_some]
  rw [if_pos (by decide +kernel), int_f]
  simp only [Option.bind_some]
  rw [if_pos (by decide +kernel), h3]
  simp only [Option.bind_some]
  rw [if_pos trivial, h4]
  simp only [Option.bind_some, h5]
  rfl

/-! ### The reference's -/
def i64 (n : Int) : Prop := -9223372036854775808 ≤ n ∧ n ≤ 9223372036854775807
theorem rwrap_f {a : Int} (h : i64 a) : kindlingref01_Wrap.f a = some (W a) := by
  unfold kindlingref01_Wrap.f
  simp only [i64] at h
  split
  · congr 1; simp only [w64]; unfold W; omega
  · split
    · congr 1; simp only [w64]; unfold W; omega
    · congr 1; unfold W; omega
theorem W_i64 (n : Int) : i64 (W n) := by have := W_range n; unfold i64; omega
theorem w64_i64 (n : Int) : i64 (wrap64 n) := by rw [w64]; unfold i64; omega
theorem radd_f {a b : Int} (ha : i64 a) (hb : i64 b) : kindlingref01_Add.f a b = some (W (a + b)) := by
  unfold kindlingref01_Add.f
  rw [rwrap_f ha, rwrap_f hb]
  simp only [Option.bind_some]
  rw [rwrap_f (w64_i64 _), W_w64]
  simp only [Option.bind_some]
  congr 1; unfold W; omega
theorem rneg_f {a : Int} (ha : i64 a) : kindlingref01_Neg.f a = some (W (-a)) := by
  unfold kindlingref01_Neg.f
  rw [rwrap_f ha]
  simp only [Option.bind_some]
  rw [rwrap_f (w64_i64 _), W_w64]
  simp only [Option.bind_some]
  congr 1; unfold W; omega
theorem rsub_f {a b : Int} (ha : i64 a) (hb : i64 b) : kindlingref01_Sub.f a b = some (W (a - b)) := by
  unfold kindlingref01_Sub.f
  rw [rneg_f hb]
  simp only [Option.bind_some]
  rw [radd_f ha (W_i64 _)]
  simp only [Option.bind_some]
  congr 1; unfold W; omega

/-! ### The laws that are of sums and products alone -/
theorem NumWraps_pure (a b : Int) : ∃ k, kindlinglaw01_NumWraps.f k a b = some true := by
  refine ⟨1, ?_⟩
  unfold kindlinglaw01_NumWraps.f
  have hr := W_range a
  have hw : W (W a) = W a := W_of hr
  simp only [wrap_f, fit_f, Option.bind_some, hw, beq_self_eq_true, if_true]
  have hc : (W a == a) = (W a == a) := rfl
  rw [show ((W a == a) != (W a == a)) = false by simp]
  unfold kindlinglaw01_NumWraps.j0
  obtain ⟨k, hk⟩ := W_spec a
  simp only [add_f, mul_f, int_f, fit_f, known_f, Option.bind_some]
  rw [if_neg (by decide), if_pos (W_congr (-k) (by rw [hk]; grind)), if_pos (W_congr (-(k * b)) (by rw [hk]; grind)), if_pos (by unfold IU W; omega), if_pos]
  rw [W_of (W_range _), beq_self_eq_true]

theorem NumRing_pure (a b c : Int) : ∃ k, kindlinglaw01_NumRing.f k a b c = some true := by
  refine ⟨1, ?_⟩
  unfold kindlinglaw01_NumRing.f
  obtain ⟨k1, h1⟩ := W_spec (a * b)
  obtain ⟨k2, h2⟩ := W_spec (b * c)
  obtain ⟨k3, h3⟩ := W_spec (b + c)
  obtain ⟨k4, h4⟩ := W_spec (a * c)
  simp only [add_f, mul_f, Option.bind_some]
  rw [if_pos (by rw [Int.add_comm]), if_pos (by rw [Int.mul_comm]), if_pos (by unfold W; omega)]
  have e1 : W (W (a * b) * c) = W (a * W (b * c)) := W_congr (k1 * c - a * k2) (by rw [h1, h2]; grind)
  rw [e1, show (W (a * W (b * c)) != W (a * W (b * c))) = false by simp]
  unfold kindlinglaw01_NumRing.j0
  simp only [add_f, mul_f, sub_f, neg_f, wrap_f, known_f, Option.bind_some]
  rw [if_neg (by decide), if_pos (W_congr (a * k3 - k1 - k4) (by rw [h1, h3, h4]; grind)), if_pos (by unfold W; omega), if_pos (by unfold W; omega)]

/-! ### The reference's product -/
theorem and1 (x : Int) : Go.bits .and .i64 x 1 = x % 2 := by
  have h1 : (BitVec.ofInt 64 1).toNat = 2 ^ 1 - 1 := by decide
  have key : (BitVec.ofInt 64 x &&& BitVec.ofInt 64 1).toNat = (x % ((2 ^ 64 : Nat) : Int)).toNat % 2 ^ 1 := by
    rw [BitVec.toNat_and, BitVec.toNat_ofInt, h1, Nat.and_two_pow_sub_one_eq_mod]
  show IntKind.i64.wrap ((BitVec.ofInt 64 x &&& BitVec.ofInt 64 1).toNat : Nat) = x % 2
  rw [key, IntKind.wrap_i64]
  omega
theorem emod_twice (Y m : Int) (hm : 0 < m) : Y % (m * 2) = Y % m + m * (Y / m % 2) := by
  have h1 := Int.mul_ediv_add_emod Y m
  have h2 := Int.mul_ediv_add_emod (Y / m) 2
  have h3 := Int.emod_nonneg Y (show m ≠ 0 by omega)
  have h4 := Int.emod_lt_of_pos Y hm
  have e : Y = (Y % m + m * (Y / m % 2)) + m * 2 * (Y / m / 2) := by
    have : m * (Y / m) = m * (2 * (Y / m / 2) + Y / m % 2) := by rw [h2]
    grind
  have hb : Y / m % 2 = 0 ∨ Y / m % 2 = 1 := by omega
  have hlt : 0 ≤ Y % m + m * (Y / m % 2) ∧ Y % m + m * (Y / m % 2) < m * 2 := by rcases hb with h | h <;> rw [h] <;> omega
  have h5 : Y % (m * 2) = ((Y % m + m * (Y / m % 2)) + m * 2 * (Y / m / 2)) % (m * 2) := congrArg (· % (m * 2)) e
  rw [h5, Int.add_mul_emod_self_left, Int.emod_eq_of_lt hlt.1 hlt.2]
theorem rmul_l0 (A Y : Int) (d : Nat) : ∀ (k i : Nat) (x s : Int), i + d = 63 → d < k → i64 x → i64 s → (-4611686018427387904 ≤ s ∧ s ≤ 4611686018427387903) → (∃ p, x = A * 2 ^ i + 9223372036854775808 * p) → (∃ q, s = A * (Y % 2 ^ i) + 9223372036854775808 * q) →
    ∃ r, kindlingref01_Mul.l0 k x Y s (i : Int) = some r ∧ (-4611686018427387904 ≤ r ∧ r ≤ 4611686018427387903) ∧ ∃ q, r = A * (Y % 2 ^ 63) + 9223372036854775808 * q := by
  induction d with
  | zero =>
    intro k i x s hi hk hx hs hr hp hq
    obtain ⟨k, rfl⟩ : ∃ m, k = m + 1 := ⟨k - 1, by omega⟩
    refine ⟨s, ?_, hr, ?_⟩
    · unfold kindlingref01_Mul.l0; rw [if_neg (by omega)]
    · have : i = 63 := by omega
      subst this; exact hq
  | succ d ih =>
    intro k i x s hi hk hx hs hr hp hq
    obtain ⟨k, rfl⟩ : ∃ m, k = m + 1 := ⟨k - 1, by omega⟩
    have hi1 : (i : Int) < 63 := by omega
    have hi0 : (0 : Int) ≤ i := by omega
    have hi2 : i ≤ 64 := by omega
    have hd1 : i + 1 + d = 63 := by omega
    have hd2 : d < k := by omega
    have hu : IntKind.u64.wrap (i : Int) = i := by rw [IntKind.wrap_u64]; omega
    have hw : wrap64 ((i : Int) + 1) = ((i + 1 : Nat) : Int) := by rw [w64_of (by omega)]; omega
    have hsh : shr .i64 Y (i : Int) = Y / 2 ^ i := by
      have hb : i ≤ IntKind.i64.bits := Nat.le_trans hi2 (by decide)
      unfold shr
      rw [Int.toNat_natCast, Nat.min_eq_left hb]
    unfold kindlingref01_Mul.l0
    obtain ⟨p, hp⟩ := hp
    obtain ⟨q, hq⟩ := hq
    rw [if_pos hi1, hu, if_pos hi0, hsh, and1, hw]
    clear hi hi1 hi0 hi2 hu hw hsh hk
    obtain ⟨k1, h1⟩ := W_spec (x + x)
    obtain ⟨k2, h2⟩ := W_spec (s + x)
    have hm : (0 : Int) < 2 ^ i := Int.pow_pos (by decide)
    have hpow : (2 : Int) ^ (i + 1) = 2 ^ i * 2 := by rw [Int.pow_succ]
    have hx2 : ∃ p, W (x + x) = A * 2 ^ (i + 1) + 9223372036854775808 * p := ⟨2 * p + k1, by rw [h1, hpow, hp]; grind⟩
    have ht := emod_twice Y (2 ^ i) hm
    rw [← hpow] at ht
    by_cases hb : Y / 2 ^ i % 2 = 1
    · rw [if_pos hb, radd_f hs hx, radd_f hx hx]
      simp only [Option.bind_some]
      refine ih k (i + 1) _ _ hd1 hd2 (W_i64 _) (W_i64 _) (W_range _) hx2 ⟨q + p + k2, ?_⟩
      rw [h2, ht, hb, hp, hq]; grind
    · have hb0 : Y / 2 ^ i % 2 = 0 := (Int.emod_two_eq _).resolve_right hb
      rw [if_neg hb, radd_f hx hx]
      simp only [Option.bind_some]
      refine ih k (i + 1) _ _ hd1 hd2 (W_i64 _) hs hr hx2 ⟨q, ?_⟩
      rw [ht, hb0, hq]; grind
theorem rmul_f (k : Nat) (hk : 63 < k) {a b : Int} (ha : i64 a) (hb : i64 b) : kindlingref01_Mul.f k a b = some (W (a * b)) := by
  unfold kindlingref01_Mul.f
  rw [rwrap_f ha, rwrap_f hb]
  simp only [Option.bind_some]
  obtain ⟨r, hr, hr2, q, hq⟩ := rmul_l0 (W a) (W b) 63 k 0 (W a) 0 (by omega) (by omega) (W_i64 _) (by unfold i64; omega) (by omega) ⟨0, by simp⟩ ⟨0, by simp⟩
  rw [Int.natCast_zero] at hr
  rw [hr]
  clear hr
  obtain ⟨k1, h1⟩ := W_spec a
  obtain ⟨k2, h2⟩ := W_spec b
  have e : (W b) % 2 ^ 63 = b + 9223372036854775808 * (-((b) / 9223372036854775808)) := by
    rw [h2, show (2 : Int) ^ 63 = 9223372036854775808 from by decide]; omega
  rw [← W_of hr2, hq, e, h1]
  congr 1
  exact W_congr (q + k1 * (b + 9223372036854775808 * (-(b / 9223372036854775808))) - a * (b / 9223372036854775808)) (by grind)

theorem NumAdds_pure (a b : Int) (ha : i64 a) (hb : i64 b) : ∃ k, kindlinglaw01_NumAdds.f k a b = some true := by
  obtain ⟨k, hk⟩ : ∃ k, 63 < k := ⟨64, by decide⟩
  refine ⟨k, ?_⟩
  unfold kindlinglaw01_NumAdds.f
  simp only [wrap_f, rwrap_f ha, fit_f, add_f, radd_f ha hb, sub_f, rsub_f ha hb, mul_f, rmul_f k hk ha hb, neg_f, rneg_f ha, known_f, Option.bind_some, if_true, beq_self_eq_true]

/-! ### Quotients and rests -/
theorem tdiv_range {a b : Int} (_hb : b ≠ 0) (ha : -4611686018427387904 ≤ a ∧ a ≤ 4611686018427387904) : -4611686018427387904 ≤ Int.tdiv a b ∧ Int.tdiv a b ≤ 4611686018427387904 := by
  have h : (Int.tdiv a b).natAbs = a.natAbs / b.natAbs := Int.natAbs_tdiv a b
  have h2 : a.natAbs / b.natAbs ≤ a.natAbs := Nat.div_le_self _ _
  generalize a.natAbs / b.natAbs = d at h h2
  omega
theorem tmod_range {a b : Int} (hb : b ≠ 0) : (Int.tmod a b).natAbs < b.natAbs := by
  rw [Int.natAbs_tmod]
  exact Nat.mod_lt _ (by omega)
theorem down_f {a b : Int} (hb : b ≠ 0) (ha : -4611686018427387904 ≤ a ∧ a ≤ 4611686018427387903) (hb2 : -4611686018427387904 ≤ b ∧ b ≤ 4611686018427387903) :
    kindlingref01_Down.f a b = if Int.tmod a b = 0 then some (Int.tdiv a b, Int.tmod a b) else if ((decide (Int.tmod a b < 0)) != (decide (b < 0))) = true then some (Int.tdiv a b - 1, Int.tmod a b + b) else some (Int.tdiv a b, Int.tmod a b) := by
  have h1 := tdiv_range hb (a := a) (by omega)
  have h2 := tmod_range (a := a) hb
  have h3 := Int.tmod_add_mul_tdiv a b
  unfold kindlingref01_Down.f
  have e1 : wrap64 (Int.tdiv a b) = Int.tdiv a b := w64_of (by omega)
  have e2 : b * Int.tdiv a b = a - Int.tmod a b := by omega
  have e3 : wrap64 (a - Int.tmod a b) = a - Int.tmod a b := w64_of (by omega)
  have e4 : wrap64 (a - (a - Int.tmod a b)) = Int.tmod a b := by rw [w64_of (by omega)]; omega
  have e5 : wrap64 (Int.tdiv a b - 1) = Int.tdiv a b - 1 := w64_of (by omega)
  have e6 : wrap64 (Int.tmod a b + b) = Int.tmod a b + b := w64_of (by omega)
  rw [if_neg hb, e1, e2, e3, e4, e5, e6]

/-- Quotient and rest, down. -/
def QR (a b : Int) : Int × Int := if Int.tmod a b = 0 then (Int.tdiv a b, Int.tmod a b) else if ((decide (Int.tmod a b < 0)) != (decide (b < 0))) = true then (Int.tdiv a b - 1, Int.tmod a b + b) else (Int.tdiv a b, Int.tmod a b)
theorem down_f' {a b : Int} (hb : b ≠ 0) (ha : -4611686018427387904 ≤ a ∧ a ≤ 4611686018427387903) (hb2 : -4611686018427387904 ≤ b ∧ b ≤ 4611686018427387903) :
    kindlingref01_Down.f a b = some (QR a b) := by
  rw [down_f hb ha hb2, QR]
  split
  · rfl
  · split <;> rfl
theorem div_f (a b : Int) : num_Div.f a b = if W b = 0 then some (0, 10) else some (W (QR (W a) (W b)).1, 0) := by
  unfold num_Div.f
  simp only [wrap_f, Option.bind_some]
  by_cases hb : W b = 0
  · rw [if_pos hb, if_pos hb]
  · rw [if_neg hb, if_neg hb]
    have h1 := tdiv_range hb (a := W a) (by have := W_range a; omega)
    have e1 : wrap64 (Int.tdiv (W a) (W b)) = Int.tdiv (W a) (W b) := w64_of (by omega)
    have e5 : wrap64 (Int.tdiv (W a) (W b) - 1) = Int.tdiv (W a) (W b) - 1 := w64_of (by omega)
    rw [e1, e5, QR]
    split
    · rfl
    · split <;> rfl
theorem mod_f (a b : Int) : num_Mod.f a b = if W b = 0 then some (0, 10) else some ((QR (W a) (W b)).2, 0) := by
  unfold num_Mod.f
  simp only [wrap_f, Option.bind_some]
  by_cases hb : W b = 0
  · rw [if_pos hb, if_pos hb]
  · rw [if_neg hb, if_neg hb]
    have h2 := tmod_range (a := W a) hb
    have h4 := W_range b
    have e6 : wrap64 (Int.tmod (W a) (W b) + W b) = Int.tmod (W a) (W b) + W b := w64_of (by omega)
    rw [e6, QR]
    split
    · rfl
    · split <;> rfl
theorem QR_spec {a b : Int} (hb : b ≠ 0) : b * (QR a b).1 + (QR a b).2 = a ∧ (0 < b → 0 ≤ (QR a b).2 ∧ (QR a b).2 < b) ∧ (b < 0 → (QR a b).2 ≤ 0 ∧ b < (QR a b).2) := by
  have h2 := tmod_range (a := a) hb
  have h3 := Int.tmod_add_mul_tdiv a b
  unfold QR
  split
  · refine ⟨by show b * Int.tdiv a b + Int.tmod a b = a; omega, fun h => ?_, fun h => ?_⟩ <;> simp only <;> omega
  · split
    · rename_i h
      refine ⟨?_, fun hb' => ?_, fun hb' => ?_⟩
      · show b * (Int.tdiv a b - 1) + (Int.tmod a b + b) = a
        rw [Int.mul_sub]; omega
      · have : Int.tmod a b < 0 := by
          rcases Int.lt_or_le (Int.tmod a b) 0 with h' | h'
          · exact h'
          · simp [show ¬ Int.tmod a b < 0 by omega, show ¬ b < 0 by omega] at h
        simp only; omega
      · have : ¬ Int.tmod a b < 0 := by
          intro h'
          simp [h', hb'] at h
        simp only; omega
    · rename_i h
      refine ⟨by show b * Int.tdiv a b + Int.tmod a b = a; omega, fun hb' => ?_, fun hb' => ?_⟩
      · have : ¬ Int.tmod a b < 0 := by
          intro h'
          simp [h', show ¬ b < 0 by omega] at h
        simp only; omega
      · have : Int.tmod a b < 0 := by
          rcases Int.lt_or_le (Int.tmod a b) 0 with h' | h'
          · exact h'
          · simp [show ¬ Int.tmod a b < 0 by omega, hb'] at h
        simp only; omega
theorem rdiv_f {a b : Int} (ha : i64 a) (hb : i64 b) : kindlingref01_Div.f a b = if W b = 0 then some (0, 10) else some (W (QR (W a) (W b)).1, 0) := by
  unfold kindlingref01_Div.f
  simp only [rwrap_f ha, rwrap_f hb, Option.bind_some]
  by_cases h0 : W b = 0
  · rw [if_pos h0, if_pos h0]
  · rw [if_neg h0, if_neg h0, down_f' h0 (W_range a) (W_range b)]
    simp only [Option.bind_some]
    have h1 := tdiv_range h0 (a := W a) (by have := W_range a; omega)
    have : i64 (QR (W a) (W b)).1 := by unfold i64 QR; split <;> (try split) <;> simp only <;> omega
    rw [rwrap_f this]
    rfl
theorem rmod_f {a b : Int} (ha : i64 a) (hb : i64 b) : kindlingref01_Mod.f a b = if W b = 0 then some (0, 10) else some ((QR (W a) (W b)).2, 0) := by
  unfold kindlingref01_Mod.f
  simp only [rwrap_f ha, rwrap_f hb, Option.bind_some]
  by_cases h0 : W b = 0
  · rw [if_pos h0, if_pos h0]
  · rw [if_neg h0, if_neg h0, down_f' h0 (W_range a) (W_range b)]
    rfl
theorem NumDivides_pure (a b : Int) (ha : i64 a) (hb : i64 b) : kindlinglaw01_NumDivides.f a b = some true := by
  unfold kindlinglaw01_NumDivides.f
  rw [div_f, rdiv_f ha hb, mod_f, rmod_f ha hb]
  split <;> simp only [Option.bind_some, if_true, known_f]
theorem NumMeets_pure (a b : Int) : ∃ k, kindlinglaw01_NumMeets.f k a b = some true := by
  refine ⟨1, ?_⟩
  unfold kindlinglaw01_NumMeets.f
  rw [div_f, mod_f, wrap_f]
  by_cases h0 : W b = 0
  · simp only [Option.bind_some, if_true, known_f, h0]
  · simp only [if_neg h0, Option.bind_some]
    obtain ⟨h1, h2, h3⟩ := QR_spec (a := W a) h0
    have hend : kindlinglaw01_NumMeets.j0 1 a (W (QR (W a) (W b)).1) 0 (QR (W a) (W b)).2 0 (W b) true = some true := by
      unfold kindlinglaw01_NumMeets.j0
      simp only [if_true, mul_f, add_f, wrap_f, known_f, Option.bind_some]
      obtain ⟨k1, e1⟩ := W_spec (QR (W a) (W b)).1
      obtain ⟨k2, e2⟩ := W_spec (W b * W (QR (W a) (W b)).1)
      obtain ⟨k3, e3⟩ := W_spec a
      rw [if_pos (W_congr (k2 + W b * k1 + k3) (by rw [e2, e1]; grind))]
    rcases Int.lt_or_lt_of_ne h0 with hb | hb
    · have h3 := h3 hb
      rw [if_neg (by omega), if_pos hb, if_pos h3.1, decide_eq_true (by omega), hend]
    · have h2 := h2 hb
      rw [if_pos (by omega), if_pos (by omega), if_pos h2.2, hend]

/-! ### Words -/
theorem and1u (x : Int) (h : 0 ≤ x ∧ x < 18446744073709551616) : Go.bits .and .u64 x 1 = x % 2 := by
  rw [u64_and x 1 h.1 h.2 (by decide) (by decide)]
  have := nat_mask1 x.toNat
  simp only [Int.toNat_one]
  rw [this]; omega
theorem rint_f {a : Int} (ha : i64 a) : kindlingref01_Int.f a = some (IU a) := by
  unfold kindlingref01_Int.f IU
  rw [rwrap_f ha]
  simp only [Option.bind_some, IntKind.wrap_u64]
  congr 1; unfold W; omega
/-- An address's word. -/
def PU (a : Int) : Int := if 1 ≤ a ∧ a ≤ 1099511627776 then 2 * a else 1
theorem ptr_f (a : Int) : num_Ptr.f a = some (PU a) := by
  unfold num_Ptr.f PU
  rw [int_f]
  simp only [Option.bind_some, IntKind.wrap_u64]
  split
  · rw [if_neg (by omega)]; rfl
  · split
    · rw [if_neg (by omega)]; rfl
    · rw [if_pos (by omega)]; congr 1; omega
theorem rptr_f (a : Int) : kindlingref01_Ptr.f a = some (PU a) := by
  unfold kindlingref01_Ptr.f PU
  simp only [IntKind.wrap_u64]
  split
  · rw [if_neg (by omega)]
  · split
    · rw [if_neg (by omega)]
    · rw [if_pos (by omega)]; congr 1; omega
def u64 (n : Int) : Prop := 0 ≤ n ∧ n < 18446744073709551616
theorem isint_f {w : Int} (h : u64 w) : num_IsInt.f w = some (w % 2 == 1) := by
  unfold num_IsInt.f; rw [and1u w h]
theorem tmod2 {w : Int} (h : u64 w) : Int.tmod w 2 = w % 2 := by rw [Int.tmod_eq_emod_of_nonneg h.1]
theorem tdiv2 {w : Int} (h : u64 w) : Int.tdiv w 2 = w / 2 := by rw [Int.tdiv_eq_ediv_of_nonneg h.1]
theorem risint_f {w : Int} (h : u64 w) : kindlingref01_IsInt.f w = some (w % 2 == 1) := by
  unfold kindlingref01_IsInt.f; rw [tmod2 h]
/-- Is it an address's word? -/
def isP (w : Int) : Bool := decide (w % 2 = 0 ∧ 2 ≤ w ∧ w ≤ 2199023255552)
theorem isptr_f {w : Int} (h : u64 w) : num_IsPtr.f w = some (isP w) := by
  unfold num_IsPtr.f isP; rw [and1u w h]
  split
  · split
    · congr 1; rw [decide_eq_decide]; omega
    · rw [decide_eq_false (by omega)]
  · rw [decide_eq_false (by omega)]
theorem risptr_f {w : Int} (h : u64 w) : kindlingref01_IsPtr.f w = some (isP w) := by
  unfold kindlingref01_IsPtr.f isP; rw [tmod2 h, tdiv2 h, IntKind.wrap_u64]
  simp only [u64] at h
  split
  · split
    · congr 1; rw [decide_eq_decide]; omega
    · rw [decide_eq_false (by omega)]
  · rw [decide_eq_false (by omega)]
/-- The integer of a word. -/
def TI (w : Int) : Int := if w % 2 = 1 then (if w ≥ 9223372036854775808 then (w - 18446744073709551616) / 2 else w / 2) else 0
theorem toint_f {w : Int} (h : u64 w) : num_ToInt.f w = some (TI w) := by
  unfold num_ToInt.f TI
  rw [isint_f h]
  simp only [Option.bind_some, beq_iff_eq, w64]
  simp only [u64] at h
  split
  · congr 1; split <;> omega
  · rfl
theorem rtoint_f {w : Int} (h : u64 w) : kindlingref01_ToInt.f w = some (TI w) := by
  unfold kindlingref01_ToInt.f TI
  rw [risint_f h, tdiv2 h]
  simp only [Option.bind_some, beq_iff_eq, w64, IntKind.wrap_u64]
  simp only [u64] at h
  split
  · split
    · congr 1; rw [if_pos (by omega)]; omega
    · congr 1; rw [if_neg (by omega)]; omega
  · rfl
/-- The address of a word. -/
def TP (w : Int) : Int := if isP w = true then w / 2 else 0
theorem toptr_f {w : Int} (h : u64 w) : num_ToPtr.f w = some (TP w) := by
  unfold num_ToPtr.f TP
  rw [isptr_f h]
  simp only [Option.bind_some, w64]
  simp only [u64] at h
  split
  · congr 1; omega
  · rfl
theorem rtoptr_f {w : Int} (h : u64 w) : kindlingref01_ToPtr.f w = some (TP w) := by
  unfold kindlingref01_ToPtr.f TP
  rw [risptr_f h, tdiv2 h]
  simp only [Option.bind_some, w64, IntKind.wrap_u64]
  simp only [u64] at h
  split
  · congr 1; omega
  · rfl
theorem NumWords_pure (n a w : Int) (hn : i64 n) (hw : u64 w) : kindlinglaw01_NumWords.f n a w = some true := by
  unfold kindlinglaw01_NumWords.f
  simp only [int_f, rint_f hn, ptr_f, rptr_f, isint_f hw, risint_f hw, isptr_f hw, risptr_f hw, toint_f hw, rtoint_f hw, toptr_f hw, rtoptr_f hw, known_f, Option.bind_some, beq_self_eq_true, if_true]

theorem IU_u64 (n : Int) : u64 (IU n) := by unfold u64 IU; omega
theorem PU_u64 (n : Int) : u64 (PU n) := by unfold u64 PU; split <;> omega
theorem TI_IU (n : Int) : TI (IU n) = W n := by unfold TI IU W; split <;> (try split) <;> omega
theorem IU_odd (n : Int) : IU n % 2 = 1 := by unfold IU; omega
theorem IU_eq (n m : Int) : (IU n == IU m) = (W n == W m) := by
  rw [Bool.eq_iff_iff, beq_iff_eq, beq_iff_eq]; unfold IU W; omega
theorem IU_TI {w : Int} (h : u64 w) (ho : w % 2 = 1) : IU (TI w) = w := by
  simp only [u64] at h
  unfold IU TI; rw [if_pos ho]; split <;> omega
theorem PU_TP {w : Int} (h : isP w = true) : PU (TP w) = w := by
  unfold TP; rw [if_pos h]
  have h := of_decide_eq_true h
  unfold PU; rw [if_pos (by omega)]; omega
theorem isP_odd {w : Int} (h : w % 2 = 1) : isP w = false := by unfold isP; rw [decide_eq_false (by omega)]
theorem NumApart_pure (n m a w : Int) (hw : u64 w) : ∃ k, kindlinglaw01_NumApart.f k n m a w = some true := by
  have hend : ∀ k, kindlinglaw01_NumApart.j1 (k + 1) w false = some true := by
    intro k
    unfold kindlinglaw01_NumApart.j1
    simp only [isint_f hw, isptr_f hw, toint_f hw, toptr_f hw, int_f, ptr_f, known_f, Option.bind_some]
    by_cases ho : w % 2 = 1
    · have hp := isP_odd ho
      simp [ho, hp, IU_TI hw ho]
    · have hb : (w % 2 == 1) = false := by simp [ho]
      by_cases hp : isP w = true
      · simp [hb, hp, PU_TP hp]
      · simp [hb, hp]
  obtain ⟨k, -⟩ : ∃ k : Nat, True := ⟨0, trivial⟩
  refine ⟨k + 1 + 1, ?_⟩
  unfold kindlinglaw01_NumApart.f
  simp only [int_f, toint_f (IU_u64 _), wrap_f, isint_f (IU_u64 _), isptr_f (IU_u64 _), Option.bind_some, TI_IU, if_true]
  rw [IU_eq]
  simp only [bne_self_eq_false, Bool.false_eq_true, if_false, IU_odd, beq_self_eq_true, if_true, isP_odd (IU_odd n)]
  simp only [kindlinglaw01_NumApart.j0, Bool.false_eq_true, if_false]
  by_cases h1 : a ≥ 1
  · by_cases h2 : a ≤ 1099511627776
    · rw [if_pos h1, if_pos h2]
      have hp : PU a = 2 * a := by unfold PU; rw [if_pos (by omega)]
      have hu := PU_u64 a
      rw [hp] at hu
      have hi : isP (2 * a) = true := decide_eq_true (by omega)
      have ht : TP (2 * a) = a := by unfold TP; rw [if_pos hi]; omega
      simp only [ptr_f, toptr_f hu, isptr_f hu, isint_f hu, Option.bind_some, hp, ht, hi, if_true]
      rw [show (2 * a % 2 == 1) = false by rw [beq_eq_false_iff_ne]; omega]
      exact hend k
    · rw [if_pos h1, if_neg h2]; exact hend k
  · rw [if_neg h1]; exact hend k
end Go.Proofs.Ytljbkonhailamaa.Fa
