/- IsaBits at every word and every bit: no bit is 1 that the form does not name. -/
import Derived.Test.YtebjdjdlpmplpaaFacts
import Derived.Test.YtebjdjdlpmplpaaPr7
namespace Go.Proofs.Ytebjdjdlpmplpaa.Pure
open Go.RowKit Go.Proofs.Ytebjdjdlpmplpaa.Pr Go.Proofs.Ytebjdjdlpmplpaa.Fa Go.Proofs.Ytebjdjdlpmplpaa.Isa Go.Proofs.YtebjdjdlpmplpaaW.PrintWords Go.Proofs.YtebjdjdlpmplpaaW.PrintLast Go.Proofs.YtebjdjdlpmplpaaW.PrintMore
theorem and_split (i x m : Nat) : x &&& m = 0 ↔ (x % 2 ^ i) &&& (m % 2 ^ i) = 0 ∧ (x / 2 ^ i) &&& (m / 2 ^ i) = 0 := by
  rw [← Nat.and_mod_two_pow, ← Nat.and_div_two_pow]
  constructor
  · intro h; rw [h]; simp
  · rintro ⟨h1, h2⟩
    have := Nat.div_add_mod (x &&& m) (2 ^ i)
    rw [h1, h2] at this
    omega
theorem byte_named : ∀ y, y < 256 → (y &&& 240 = 0 ↔ y < 16) := by decide +kernel
theorem byte_not (y : Nat) (h : y < 256) : (y &&& 255 = 0 ↔ y = 0) := by
  have := Nat.and_two_pow_sub_one_eq_mod y 8
  rw [show (255 : Nat) = 2 ^ 8 - 1 from rfl, this]
  omega
theorem word_not (y : Nat) (h : y < 4294967296) : (y &&& 4294967295 = 0 ↔ y = 0) := by
  have := Nat.and_two_pow_sub_one_eq_mod y 32
  rw [show (4294967295 : Nat) = 2 ^ 32 - 1 from rfl, this]
  omega
/-- The bits that an operation's form names. -/
def maskN (pa pb pc pn : Bool) : Nat := 255 + (if pa then 3840 else 0) + (if pb then 983040 else 0) + (if pc then 251658240 else 0) + (if pn then 18446744069414584320 else 0)
def partA (p : Bool) : Nat := if p then 240 else 255
def partN (p : Bool) : Nat := if p then 0 else 4294967295
theorem mask_parts (pa pb pc pn : Bool) : (18446744073709551615 - maskN pa pb pc pn) = 256 * partA pa + 65536 * partA pb + 16777216 * partA pc + 4294967296 * partN pn := by
  cases pa <;> cases pb <;> cases pc <;> cases pn <;> rfl
theorem part_ok (p : Bool) (y : Nat) (h : y < 256) : (y &&& partA p = 0 ↔ (if p then y < 16 else y = 0)) := by
  cases p
  · exact byte_not y h
  · exact byte_named y h
theorem partn_ok (p : Bool) (y : Nat) (h : y < 4294967296) : (y &&& partN p = 0 ↔ (if p then True else y = 0)) := by
  cases p
  · exact word_not y h
  · simp [partN]
theorem partA_lt (p : Bool) : partA p < 256 := by cases p <;> decide
theorem partN_lt (p : Bool) : partN p < 4294967296 := by cases p <;> decide
theorem mask_zero (x : Nat) (hx : x < 18446744073709551616) (pa pb pc pn : Bool) :
    x &&& (18446744073709551615 - maskN pa pb pc pn) = 0 ↔ (if pa then x / 256 % 256 < 16 else x / 256 % 256 = 0) ∧ (if pb then x / 65536 % 256 < 16 else x / 65536 % 256 = 0) ∧ (if pc then x / 16777216 % 256 < 16 else x / 16777216 % 256 = 0) ∧ (if pn then True else x / 4294967296 = 0) := by
  rw [mask_parts, ← part_ok pa _ (by omega), ← part_ok pb _ (by omega), ← part_ok pc _ (by omega), ← partn_ok pn _ (by omega)]
  have ha := partA_lt pa
  have hb := partA_lt pb
  have hc := partA_lt pc
  have hn := partN_lt pn
  generalize partA pa = A at *
  generalize partA pb = B at *
  generalize partA pc = C at *
  generalize partN pn = N at *
  rw [and_split 8, show (2 : Nat) ^ 8 = 256 from rfl, show (256 * A + 65536 * B + 16777216 * C + 4294967296 * N) % 256 = 0 by omega, show (256 * A + 65536 * B + 16777216 * C + 4294967296 * N) / 256 = A + 256 * B + 65536 * C + 16777216 * N by omega, Nat.and_zero]
  rw [and_split 8 (x / 256), show (2 : Nat) ^ 8 = 256 from rfl, show (A + 256 * B + 65536 * C + 16777216 * N) % 256 = A by omega, show (A + 256 * B + 65536 * C + 16777216 * N) / 256 = B + 256 * C + 65536 * N by omega, show x / 256 / 256 = x / 65536 by omega]
  rw [and_split 8 (x / 65536), show (2 : Nat) ^ 8 = 256 from rfl, show (B + 256 * C + 65536 * N) % 256 = B by omega, show (B + 256 * C + 65536 * N) / 256 = C + 256 * N by omega, show x / 65536 / 256 = x / 16777216 by omega]
  rw [and_split 8 (x / 16777216), show (2 : Nat) ^ 8 = 256 from rfl, show (C + 256 * N) % 256 = C by omega, show (C + 256 * N) / 256 = N by omega, show x / 16777216 / 256 = x / 4294967296 by omega]
  simp
def maskOf (op : Int) : Nat := maskN (hasZ (formOf op) 97) (hasZ (formOf op) 98) (hasZ (formOf op) 99) (hasZ (formOf op) 110)
theorem mask_lt (op : Int) : maskOf op < 18446744073709551616 := by
  unfold maskOf
  cases hasZ (formOf op) 97 <;> cases hasZ (formOf op) 98 <;> cases hasZ (formOf op) 99 <;> cases hasZ (formOf op) 110 <;> decide
/-- A word is an instruction's just if it has no bit that is not named. -/
theorem dec_ok (x : Nat) (hx : x < 18446744073709551616) (ho : opIn ((x : Int) % 256)) :
    checkOf ((x : Int) % 256) ((x : Int) / 256 % 256) ((x : Int) / 65536 % 256) ((x : Int) / 16777216 % 256) (decN x) = 0 ↔ x &&& (18446744073709551615 - maskOf ((x : Int) % 256)) = 0 := by
  unfold maskOf
  rw [mask_zero x hx]
  constructor
  · intro h
    obtain ⟨_, ha, hb, hc, hn, a0, b0, c0, n0⟩ := check_right h
    refine ⟨?_, ?_, ?_, ?_⟩
    · split
      · omega
      · rename_i hz; have := a0 (by simpa using hz); omega
    · split
      · omega
      · rename_i hz; have := b0 (by simpa using hz); omega
    · split
      · omega
      · rename_i hz; have := c0 (by simpa using hz); omega
    · split
      · trivial
      · rename_i hz
        have := n0 (by simpa using hz)
        unfold decN at this
        split at this <;> omega
  · rintro ⟨h1, h2, h3, h4⟩
    refine right_check ⟨ho, ?_, ?_, ?_, ?_, ?_, ?_, ?_, ?_⟩
    · split at h1 <;> omega
    · split at h2 <;> omega
    · split at h3 <;> omega
    · unfold decN; split <;> omega
    · intro hz; rw [if_neg (by rw [hz]; decide)] at h1; omega
    · intro hz; rw [if_neg (by rw [hz]; decide)] at h2; omega
    · intro hz; rw [if_neg (by rw [hz]; decide)] at h3; omega
    · intro hz
      rw [if_neg (by rw [hz]; decide)] at h4
      unfold decN
      rw [if_neg (by omega)]
      omega
def litM (ch : Int) : Int := if ch = 97 then 3840 else if ch = 98 then 983040 else if ch = 99 then 251658240 else 18446744069414584320
def stepM (m ch : Int) : Int := Go.bits .or .u64 m (litM ch)
theorem fold_mask {op : Int} (h : opIn op) : (Num.bts (formOf op)).foldl stepM 255 = ((maskOf op : Nat) : Int) := by
  rcases op_cases h.1 h.2 with rfl | rfl | rfl | rfl | rfl | rfl | rfl | rfl | rfl | rfl | rfl | rfl | rfl | rfl | rfl | rfl | rfl | rfl | rfl | rfl | rfl | rfl | rfl | rfl | rfl | rfl | rfl | rfl | rfl | rfl | rfl | rfl | rfl | rfl | rfl | rfl <;> decide +kernel
def endM (k : Nat) (x0 x1 M a b c d e : Int) : Option Bool :=
  if (Go.bits .andNot .u64 x0 M) = 0 then (kindlinglaw03_IsaBits.j1 k x0 x1 M (a != (wrap64 (Go.bits .and .u64 x0 255))) a b c d e) else (kindlinglaw03_IsaBits.j1 k x0 x1 M true a b c d e)
theorem bits_from (s : ByteArray) (x0 x1 a b c d e : Int) (m : Nat) : ∀ (i k : Nat) (M : Int), i + m = s.size → s.size ≤ 3 →
    kindlinglaw03_IsaBits.l0 (k + m + 1) x0 x1 s M (i : Int) a b c d e = endM k x0 x1 (((Num.bts s).drop i).foldl stepM M) a b c d e := by
  induction m with
  | zero =>
    intro i k M h _
    rw [kindlinglaw03_IsaBits.l0, if_neg (by omega), List.drop_of_length_le (by rw [Num.bts_length]; omega)]
    rfl
  | succ m ih =>
    intro i k M h hs
    have hi : i < s.size := by omega
    have hd : (Num.bts s).drop i = bt s i :: (Num.bts s).drop (i + 1) := by
      rw [bt_bts s i hi]; exact List.drop_eq_getElem_cons _
    have hw : wrap64 ((i : Int) + 1) = ((i + 1 : Nat) : Int) := by unfold wrap64; omega
    rw [show k + (m + 1) + 1 = (k + m + 1) + 1 from rfl, kindlinglaw03_IsaBits.l0, if_pos (by omega), if_pos (by omega), hd, List.foldl_cons, hw, ih (i + 1) k _ (by omega) hs, ih (i + 1) k _ (by omega) hs, ih (i + 1) k _ (by omega) hs, ih (i + 1) k _ (by omega) hs]
    unfold stepM litM
    split
    · rfl
    split
    · rfl
    split <;> rfl
theorem shl_one (b : Int) (h0 : 0 ≤ b) (h : b ≤ 63) : shl .u64 1 b = ((2 ^ b.toNat : Nat) : Int) := by
  unfold shl
  have hb : min b.toNat IntKind.u64.bits = b.toNat := Nat.min_eq_left (Nat.le_trans (show b.toNat ≤ 63 by omega) (by decide))
  have hp : (2 : Nat) ^ b.toNat < 2 ^ 64 := Nat.pow_lt_pow_right (by decide) (by omega)
  rw [hb, IntKind.wrap_u64, Int.one_mul]
  have : ((2 : Int) ^ b.toNat) = ((2 ^ b.toNat : Nat) : Int) := by simp
  rw [this]
  generalize (2 ^ b.toNat : Nat) = P at *
  omega
theorem decI_op (w : Int) : (decI w).2.2.2.2.2 = 0 → (decI w) = (w % 256, w / 256 % 256, w / 65536 % 256, w / 16777216 % 256, decN w, 0) := by
  unfold decI
  split
  · intro _; rfl
  · rename_i h; intro h2; exact absurd h2 h
theorem bits_main (k w : Nat) (b : Int) (hw : w < 18446744073709551616) (hb0 : 8 ≤ b) (hb : b ≤ 63) (ho : opIn ((w : Int) % 256)) :
    kindlinglaw03_IsaBits.j2 (k + 1) (w : Int) b (maskOf ((w : Int) % 256) : Nat) false ((w : Int) % 256) ((w : Int) / 256 % 256) ((w : Int) / 65536 % 256) ((w : Int) / 16777216 % 256) (decN w) = some true := by
  have hwr : IntKind.u64.wrap b = b := by rw [IntKind.wrap_u64]; omega
  have hp : (2 : Nat) ^ b.toNat < 2 ^ 64 := Nat.pow_lt_pow_right (by decide) (by omega)
  have hp0 : 0 < (2 : Nat) ^ b.toNat := Nat.two_pow_pos _
  have hx : Go.bits .xor .u64 (w : Int) ((2 ^ b.toNat : Nat) : Int) = ((w ^^^ 2 ^ b.toNat : Nat) : Int) := by
    rw [u64_xor _ _ (by omega) (by omega) (by omega) (by omega), Int.toNat_natCast, Int.toNat_natCast]
  have hxl : w ^^^ 2 ^ b.toNat < 2 ^ 64 := Nat.xor_lt_two_pow (by omega) hp
  have hx8 : (w ^^^ 2 ^ b.toNat) % 256 = w % 256 := by
    have h1 := Nat.xor_mod_two_pow (a := w) (b := 2 ^ b.toNat) (n := 8)
    have h2 : 2 ^ b.toNat % 2 ^ 8 = 0 := Nat.mod_eq_zero_of_dvd (Nat.pow_dvd_pow 2 (by omega))
    rw [h2, Nat.xor_zero] at h1
    exact h1
  have hne : w ^^^ 2 ^ b.toNat ≠ w := by
    intro h2
    have h3 : 2 ^ b.toNat = 0 := by
      have := congrArg (fun x => w ^^^ x) h2
      simp [← Nat.xor_assoc] at this
    omega
  rw [kindlinglaw03_IsaBits.j2, if_neg (by decide), hwr, if_pos (by omega), shl_one b (by omega) hb, hx]
  generalize w ^^^ 2 ^ b.toNat = X at *
  have hop : (X : Int) % 256 = (w : Int) % 256 := by omega
  have hm := mask_lt ((w : Int) % 256)
  rw [idecode_f (X : Int) (by omega) (by omega), Option.bind_some, u64_andNot _ _ (by omega) (by omega) (by omega) (by omega), known_f]
  have hd := dec_ok X (by omega) (by rw [hop]; exact ho)
  rw [hop] at hd
  simp only [Int.toNat_natCast]
  unfold decI
  rw [hop]
  by_cases hc : checkOf ((w : Int) % 256) ((X : Int) / 256 % 256) ((X : Int) / 65536 % 256) ((X : Int) / 16777216 % 256) (decN X) = 0
  · rw [if_pos hc]
    dsimp only
    rw [if_pos (by rw [hd.1 hc]; rfl), if_pos rfl]
    have hcond : (!((w : Int) % 256 == (w : Int) % 256) || (!((X : Int) / 256 % 256 == (w : Int) / 256 % 256) || (!((X : Int) / 65536 % 256 == (w : Int) / 65536 % 256) || (!((X : Int) / 16777216 % 256 == (w : Int) / 16777216 % 256) || !(decN X == decN w))))) = true := by
      by_cases he : ((X : Int) / 256 % 256 = (w : Int) / 256 % 256) ∧ ((X : Int) / 65536 % 256 = (w : Int) / 65536 % 256) ∧ ((X : Int) / 16777216 % 256 = (w : Int) / 16777216 % 256) ∧ decN X = decN w
      · exfalso
        obtain ⟨e1, e2, e3, e4⟩ := he
        apply hne
        have : (X : Int) / 4294967296 = (w : Int) / 4294967296 := by
          unfold decN at e4
          split at e4 <;> split at e4 <;> omega
        omega
      · simp only [Bool.or_eq_true, Bool.not_eq_true', beq_eq_false_iff_ne]
        omega
    rw [if_pos hcond, if_pos rfl]
    rfl
  · rw [if_neg hc]
    dsimp only
    rw [if_pos (by
      have h1 : (checkOf ((w : Int) % 256) ((X : Int) / 256 % 256) ((X : Int) / 65536 % 256) ((X : Int) / 16777216 % 256) (decN X) == 0) = false := beq_eq_false_iff_ne.2 hc
      have h2 : (((X &&& (18446744073709551615 - maskOf ((w : Int) % 256)) : Nat) : Int) == 0) = false := beq_eq_false_iff_ne.2 (fun h => hc (hd.2 (by omega)))
      rw [h1, h2]
      rfl), if_neg hc]
    rfl
theorem IsaBits : kindlinglaw03_IsaBits.Pure := by
  intro a0 b h0 hb
  obtain ⟨h1, h2⟩ := u64_of h0
  obtain ⟨b1, b2⟩ := i64_of hb
  obtain ⟨w, rfl⟩ : ∃ w : Nat, a0 = w := ⟨a0.toNat, by omega⟩
  by_cases hc : checkOf ((w : Int) % 256) ((w : Int) / 256 % 256) ((w : Int) / 65536 % 256) ((w : Int) / 16777216 % 256) (decN w) = 0
  · have hi := check_in hc
    refine ⟨2 + (formOf ((w : Int) % 256)).size + 1, ?_⟩
    unfold kindlinglaw03_IsaBits.f
    rw [idecode_f _ h1 h2, Option.bind_some]
    unfold decI
    rw [if_pos hc]
    dsimp only
    rw [if_pos rfl, show isa_Form.f ((w : Int) % 256) = some (formOf ((w : Int) % 256)) from rfl, Option.bind_some]
    refine Eq.trans (bits_from (formOf ((w : Int) % 256)) w b _ _ _ _ _ (formOf ((w : Int) % 256)).size 0 2 255 (by omega) (form_small _)) ?_
    rw [List.drop_zero, fold_mask hi]
    unfold endM
    have hm := mask_lt ((w : Int) % 256)
    have hz := (dec_ok w (by omega) hi).1 hc
    rw [u64_andNot _ _ (by omega) (by omega) (by omega) (by omega)]
    simp only [Int.toNat_natCast]
    rw [if_pos (by rw [hz]; rfl), and255 _ h1 h2, w64_of (by omega), show ((w : Int) % 256 != (w : Int) % 256) = false by simp, kindlinglaw03_IsaBits.j1, if_neg (by decide)]
    by_cases hb8 : b < 8
    · rw [if_pos hb8, kindlinglaw03_IsaBits.j2, if_pos rfl, known_f]; rfl
    · rw [if_neg hb8]
      by_cases hb63 : b > 63
      · rw [decide_eq_true hb63, kindlinglaw03_IsaBits.j2, if_pos rfl, known_f]; rfl
      · rw [decide_eq_false hb63]
        exact bits_main 0 w b (by omega) (by omega) (by omega) hi
  · refine ⟨0, ?_⟩
    unfold kindlinglaw03_IsaBits.f
    rw [idecode_f _ h1 h2, Option.bind_some]
    unfold decI
    rw [if_neg hc]
    dsimp only
    rw [if_neg hc, if_pos (by decide), known_f]
    rfl
end Go.Proofs.Ytebjdjdlpmplpaa.Pure
