/- What isa.Form, isa.names and isa.Check answer, at every argument. -/
import Derived.Test.YtebjdjdlpmplpaaFm2
import Derived.Test.YtebjdjdlpmplpaaFm3
import Derived.Test.YtebjdjdlpmplpaaNum
import Derived.WalkLawsBesides
namespace Go.Proofs.Ytebjdjdlpmplpaa.Isa
open Go.RowKit Go.Proofs.YtebjdjdlpmplpaaW.PrintWords Go.Proofs.YtebjdjdlpmplpaaW.PrintLast
open Go.Proofs.Ytebjdjdlpmplpaa.Num (hid)
/-- The forms of the operations. -/
def formAt : Nat → ByteArray
  | 1 => ⟨#[97, 110]⟩
  | 2 => ⟨#[97, 110]⟩
  | 3 => ⟨#[97, 98]⟩
  | 4 => ⟨#[97, 110]⟩
  | 5 => ⟨#[97, 110]⟩
  | 6 => ⟨#[97, 110]⟩
  | 7 => ⟨#[97, 98, 99]⟩
  | 8 => ⟨#[97, 98, 99]⟩
  | 9 => ⟨#[97, 98, 99]⟩
  | 10 => ⟨#[97, 98, 99]⟩
  | 11 => ⟨#[97, 98, 99]⟩
  | 12 => ⟨#[97, 98]⟩
  | 13 => ⟨#[97, 98, 99]⟩
  | 14 => ⟨#[97, 98, 99]⟩
  | 15 => ⟨#[97, 98, 99]⟩
  | 16 => ⟨#[97, 110]⟩
  | 17 => ⟨#[97, 110]⟩
  | 18 => ⟨#[97, 98]⟩
  | 19 => ⟨#[97, 98, 110]⟩
  | 20 => ⟨#[97, 98, 110]⟩
  | 21 => ⟨#[97, 98]⟩
  | 22 => ⟨#[97, 98]⟩
  | 23 => ⟨#[110]⟩
  | 24 => ⟨#[97, 110]⟩
  | 25 => ⟨#[110]⟩
  | 26 => ⟨#[97, 98]⟩
  | 27 => ⟨#[97, 98]⟩
  | 28 => ⟨#[97]⟩
  | 29 => ⟨#[110]⟩
  | 30 => ⟨#[]⟩
  | 31 => ⟨#[97]⟩
  | 32 => ⟨#[97, 98, 99]⟩
  | 33 => ⟨#[97, 98]⟩
  | 34 => ⟨#[97, 98]⟩
  | 35 => ⟨#[97, 98, 99]⟩
  | 36 => ⟨#[97, 98]⟩
  | _ => ⟨#[]⟩
def formOf (op : Int) : ByteArray := if op < 1 then ⟨#[]⟩ else if 37 ≤ op then ⟨#[]⟩ else formAt op.toNat
theorem op_cases {op : Int} (h1 : ¬ op < 1) (h2 : ¬ 37 ≤ op) : op = 1 ∨ op = 2 ∨ op = 3 ∨ op = 4 ∨ op = 5 ∨ op = 6 ∨ op = 7 ∨ op = 8 ∨ op = 9 ∨ op = 10 ∨ op = 11 ∨ op = 12 ∨ op = 13 ∨ op = 14 ∨ op = 15 ∨ op = 16 ∨ op = 17 ∨ op = 18 ∨ op = 19 ∨ op = 20 ∨ op = 21 ∨ op = 22 ∨ op = 23 ∨ op = 24 ∨ op = 25 ∨ op = 26 ∨ op = 27 ∨ op = 28 ∨ op = 29 ∨ op = 30 ∨ op = 31 ∨ op = 32 ∨ op = 33 ∨ op = 34 ∨ op = 35 ∨ op = 36 := by omega
theorem form_eq (op : Int) : Fm.isa_Form.f 6 op = some (formOf op) := by
  by_cases h1 : op < 1 ∨ 37 ≤ op
  · have hf : formOf op = ⟨#[]⟩ := by unfold formOf; rcases h1 with h1 | h1; · rw [if_pos h1]
                                      · rw [if_neg (by omega), if_pos h1]
    have hn : nameOf op = ⟨#[]⟩ := by unfold nameOf; rcases h1 with h1 | h1; · rw [if_pos h1]
                                      · rw [if_neg (by omega), if_pos h1]
    have hne : ∀ c : Int, 1 ≤ c → c < 37 → (op == c) = false := fun c _ _ => by rw [beq_eq_false_iff_ne]; omega
    rw [hf]
    unfold Fm.isa_Form.f
    rw [if_neg (by omega), if_neg (by omega), if_neg (by omega), if_neg (by omega), if_neg (by omega), if_neg (by omega), if_neg (by omega), hne 24 (by decide) (by decide)]
    rw [Fm.isa_Form.j0, if_neg (by decide)]
    rw [if_neg (by omega), if_neg (by omega), if_neg (by omega), if_neg (by omega), if_neg (by omega), if_neg (by omega), if_neg (by omega), if_neg (by omega), if_neg (by omega), hne 36 (by decide) (by decide)]
    rw [Fm.isa_Form.j1, if_neg (by decide), if_neg (by omega), hne 20 (by decide) (by decide)]
    rw [Fm.isa_Form.j2, if_neg (by decide), if_neg (by omega), if_neg (by omega), hne 29 (by decide) (by decide)]
    rw [Fm.isa_Form.j3, if_neg (by decide), if_neg (by omega), hne 31 (by decide) (by decide)]
    rw [Fm.isa_Form.j4, if_neg (by decide), if_neg (by omega), Fm.isa_Name.f, hn, Option.bind_some, ByteArray.toList_eq]
    rfl
  · rcases op_cases (fun h => h1 (.inl h)) (fun h => h1 (.inr h)) with rfl | rfl | rfl | rfl | rfl | rfl | rfl | rfl | rfl | rfl | rfl | rfl | rfl | rfl | rfl | rfl | rfl | rfl | rfl | rfl | rfl | rfl | rfl | rfl | rfl | rfl | rfl | rfl | rfl | rfl | rfl | rfl | rfl | rfl | rfl | rfl <;> first | rfl | (simp [Fm.isa_Form.f, Fm.isa_Form.j0, Fm.isa_Form.j1, Fm.isa_Form.j2, Fm.isa_Form.j3, Fm.isa_Form.j4, Fm.isa_Name.f, nameOf, nameAt, formOf, formAt, ByteArray.toList_eq])
theorem form_any (op : Int) (w : World) : Calls Try.prog 16 #[.int .i64 op] w fun e w' => e = .returned (.string (formOf op)) ∧ Below w.heap.size w w' :=
  Fm.isa_Form.calls 6 op _ w (form_eq op)
/-- Whether a byte stands in a text. -/
def hasZ (s : ByteArray) (c : Int) : Bool := (Num.bts s).any (· == c)
theorem bt_bts (s : ByteArray) (i : Nat) (h : i < s.size) : bt s i = (Num.bts s)[i]'(by rw [Num.bts_length]; exact h) := by
  rw [Num.bts_get s i h, ← bt_at s (i : Int) (by simpa using h)]
  rfl
theorem names_from (s : ByteArray) (c : Int) (m : Nat) : ∀ i : Nat, i + m = s.size → s.size < 4611686018427387904 → ∃ k, Fm.isa_names.l0 k s c (i : Int) = some (((Num.bts s).drop i).any (· == c)) := by
  induction m with
  | zero =>
    intro i h _
    refine ⟨1, ?_⟩
    rw [Fm.isa_names.l0, if_neg (by omega), List.drop_of_length_le (by rw [Num.bts_length]; omega)]
    rfl
  | succ m ih =>
    intro i h hs
    have hi : i < s.size := by omega
    have hd : (Num.bts s).drop i = bt s i :: (Num.bts s).drop (i + 1) := by
      rw [bt_bts s i hi]; exact List.drop_eq_getElem_cons _
    obtain ⟨k, hk⟩ := ih (i + 1) (by omega) hs
    refine ⟨k + 1, ?_⟩
    rw [Fm.isa_names.l0, if_pos (by omega), if_pos (by omega), hd, List.any_cons]
    by_cases hc : bt s (i : Int) = c
    · rw [if_pos hc, beq_iff_eq.2 hc, Bool.true_or]
    · rw [if_neg hc, beq_eq_false_iff_ne.2 hc, Bool.false_or, ← hk]
      congr 1
      unfold wrap64
      omega
theorem names_any (s : ByteArray) (c : Int) (w : World) (hs : s.size < 4611686018427387904) : Calls Try.prog 41 #[.string s, .int .u8 c] w fun e w' => e = .returned (.bool (hasZ s c)) ∧ Drawn0 w w' := by
  obtain ⟨k, hk⟩ := names_from s c s.size 0 (by omega) hs
  exact Fm.isa_names.calls k s c _ w (by unfold Fm.isa_names.f hasZ; exact hk)
theorem form_small (op : Int) : (formOf op).size ≤ 3 := by
  unfold formOf
  split
  · decide
  split
  · decide
  rename_i h1 h2
  rcases op_cases h1 h2 with rfl | rfl | rfl | rfl | rfl | rfl | rfl | rfl | rfl | rfl | rfl | rfl | rfl | rfl | rfl | rfl | rfl | rfl | rfl | rfl | rfl | rfl | rfl | rfl | rfl | rfl | rfl | rfl | rfl | rfl | rfl | rfl | rfl | rfl | rfl | rfl <;> decide
/-- The name of an operation is empty, asked as the code asks. -/
def regBad (r : Int) : Prop := r < 0 ∨ 16 ≤ r
instance (r : Int) : Decidable (regBad r) := by unfold regBad; infer_instance
def rg (a b c : Int) (j : Nat) : Int := if j = 0 then a else if j = 1 then b else c
/-- What is remembered behind the first registers. -/
def remem (f : ByteArray) (a b c : Int) : Nat → Int
  | 0 => 0
  | j + 1 => if hasZ f (97 + j) = false ∧ rg a b c j ≠ 0 then 1 else remem f a b c j
def okReg (f : ByteArray) (a b c : Int) : Nat → Prop
  | 0 => True
  | j + 1 => okReg f a b c j ∧ ¬ (hasZ f (97 + j) = true ∧ regBad (rg a b c j))
def nBad (f : ByteArray) (n : Int) : Prop := if hasZ f 110 = true then n < -2147483648 ∨ 2147483647 < n else n ≠ 0
instance (f : ByteArray) (n : Int) : Decidable (nBad f n) := by unfold nBad; infer_instance
/-- What isa.Check answers. -/
def checkOf (op a b c n : Int) : Int :=
  if (nameOf op).toList = [] then 30 else
  if hasZ (formOf op) 97 = true ∧ regBad a then 31 else
  if hasZ (formOf op) 98 = true ∧ regBad b then 31 else
  if hasZ (formOf op) 99 = true ∧ regBad c then 31 else
  if nBad (formOf op) n then 1 else remem (formOf op) a b c 3
theorem check_bad {op a b c n : Int} {j : Nat} (hj : j < 3) (hn : ¬ (nameOf op).toList = []) (hok : okReg (formOf op) a b c j) (hb : hasZ (formOf op) (97 + j) = true ∧ regBad (rg a b c j)) : checkOf op a b c n = 31 := by
  have : j = 0 ∨ j = 1 ∨ j = 2 := by omega
  unfold checkOf
  rw [if_neg hn]
  rcases this with rfl | rfl | rfl
  · exact if_pos hb
  · rw [if_neg (show ¬ (hasZ (formOf op) 97 = true ∧ regBad a) from hok.2)]
    exact if_pos hb
  · rw [if_neg (show ¬ (hasZ (formOf op) 97 = true ∧ regBad a) from hok.1.2), if_neg (show ¬ (hasZ (formOf op) 98 = true ∧ regBad b) from hok.2)]
    exact if_pos hb
theorem check_end {op a b c n : Int} (hn : ¬ (nameOf op).toList = []) (hok : okReg (formOf op) a b c 3) : checkOf op a b c n = if nBad (formOf op) n then 1 else remem (formOf op) a b c 3 := by
  unfold checkOf
  rw [if_neg hn, if_neg (show ¬ (hasZ (formOf op) 97 = true ∧ regBad a) from hok.1.1.2), if_neg (show ¬ (hasZ (formOf op) 98 = true ∧ regBad b) from hok.1.2), if_neg (show ¬ (hasZ (formOf op) 99 = true ∧ regBad c) from hok.2)]
theorem check_any (op a b c n : Int) (w : World) :
    Calls Try.prog 20 #[.agg #[.int .i64 op, .int .i64 a, .int .i64 b, .int .i64 c, .int .i64 n]] w fun e w' => e = .returned (.int .i64 (checkOf op a b c n)) ∧ Below w.heap.size w w' := by
  have hu30 := Try.underlying30
  by_cases hn : (nameOf op).toList = []
  · have hr : checkOf op a b c n = 30 := by unfold checkOf; rw [if_pos hn]
    have hn' : ((nameOf op).toList == []) = true := beq_iff_eq.2 hn
    rw [hr]
    go_enter Try.func20, Try.ntmps20
    go_wp2_with ((go_at_call 15; (with_reducible refine (name_any op _).mono ?_); rintro e w1 ⟨rfl, hB1⟩))
    go_ret
    exact ⟨rfl, ((Below.refl _ _).alloc (Nat.le_refl _) _).trans (hB1.mono (by simp))⟩
  · have hn' : ((nameOf op).toList == []) = false := beq_eq_false_iff_ne.2 hn
    go_enter Try.func20, Try.ntmps20
    go_wp2_with (first
      | (go_at_call 15; (with_reducible refine (name_any op _).mono ?_); rintro e w1 ⟨rfl, hB1⟩; have hb1 := blk_below (blk_new w _) hB1; have hc0 := (blk_cell hb1 0).trans rfl)
      | (go_at_call 16; (with_reducible refine (form_any op _).mono ?_); rintro e w2 ⟨rfl, hB2⟩; have hb2 := blk_below hb1 hB2; have hc1 := (blk_cell hb2 1).trans rfl; have hc2 := (blk_cell hb2 2).trans rfl; have hc3 := (blk_cell hb2 3).trans rfl; have hc4 := (blk_cell hb2 4).trans rfl))
    have HB := Aside0.mk ((((Below.refl _ _).alloc (Nat.le_refl _) _).trans (hB1.mono (by simp))).trans (hB2.mono (by have := hB1.size; simp at this; omega)))
    have hsz := form_small op
    have hs3 : Try.prog.types[3].size = 1 := by kernel_rfl
    have hc00 : ((0 : Nat) : Int) = 0 := rfl
    have hc01 : ((1 : Nat) : Int) = 1 := rfl
    have hc02 : ((2 : Nat) : Int) = 2 := rfl
    have Hn := hid hn
    clear hn hn'
    go_loopw [21, 4] (fun v e w' => ∃ j : Nat, j ≤ 3 ∧ v = .int .i64 j ∧ e = .int .i64 (remem (formOf op) a b c j) ∧ okReg (formOf op) a b c j ∧ Drawn0 w2 w') (fun v _ _ => (3 - intOf v).toNat)
    case atStart => exact ⟨0, by omega, rfl, rfl, trivial, Drawn0.refl _⟩
    case round =>
      obtain ⟨j, hj, rfl, rfl, hok, ⟨m, rfl⟩⟩ := hrel
      have hcase : j = 0 ∨ j = 1 ∨ j = 2 ∨ j = 3 := by omega
      rcases hcase with rfl | rfl | rfl | rfl
      · have hok' : okReg (formOf op) a b c 0 := hok
        have Hok := hid hok'
        clear hok hok'
        by_cases hz : hasZ (formOf op) 97 = true
        · by_cases hbad : regBad a
          · have hres : checkOf op a b c n = 31 := check_bad (j := 0) (by decide) Hn.out Hok.out ⟨hz, hbad⟩
            have Hres := hid hres
            clear hres
            rcases hbad with hlt | hge
            · go_wp2_with (first | ((with_reducible refine gate_dst (N := 24) rfl ?_); refine Kd.event_run rfl (v := .int .i64 a) (w1 := w2.drewN m) (by as_aux_lemma => kernel_rfl) ?_) | ((with_reducible refine gate_dst (N := 28) rfl ?_); refine Kd.event_run rfl (v := .int .u8 97) (w1 := w2.drewN m) (by as_aux_lemma => kernel_rfl) ?_) | (go_at_call 41; (with_reducible refine (names_any _ _ _ (by omega)).mono ?_); rintro e w3 ⟨rfl, ⟨m3, rfl⟩⟩))
              (try rw [Exit.noGoto_ret])
              go_ret
              exact ⟨by rw [Hres.out]; rfl, pw_below_drewN HB.out _⟩
            · have hge0 : ¬ a < 0 := by omega
              go_wp2_with (first | ((with_reducible refine gate_dst (N := 24) rfl ?_); refine Kd.event_run rfl (v := .int .i64 a) (w1 := w2.drewN m) (by as_aux_lemma => kernel_rfl) ?_) | ((with_reducible refine gate_dst (N := 28) rfl ?_); refine Kd.event_run rfl (v := .int .u8 97) (w1 := w2.drewN m) (by as_aux_lemma => kernel_rfl) ?_) | (go_at_call 41; (with_reducible refine (names_any _ _ _ (by omega)).mono ?_); rintro e w3 ⟨rfl, ⟨m3, rfl⟩⟩))
              (try rw [Exit.noGoto_ret])
              go_ret
              exact ⟨by rw [Hres.out]; rfl, pw_below_drewN HB.out _⟩
          · have Hb := hid hbad
            have hlo : 0 ≤ a := by unfold regBad at hbad; omega
            have hhi : decide (16 ≤ a) = false := decide_eq_false (by unfold regBad at hbad; omega)
            clear hbad
            go_wp2_with (first | ((with_reducible refine gate_dst (N := 24) rfl ?_); refine Kd.event_run rfl (v := .int .i64 a) (w1 := w2.drewN m) (by as_aux_lemma => kernel_rfl) ?_) | ((with_reducible refine gate_dst (N := 28) rfl ?_); refine Kd.event_run rfl (v := .int .u8 97) (w1 := w2.drewN m) (by as_aux_lemma => kernel_rfl) ?_) | (go_at_call 41; (with_reducible refine (names_any _ _ _ (by omega)).mono ?_); rintro e w3 ⟨rfl, ⟨m3, rfl⟩⟩))
            go_roundw
            case rel => exact ⟨1, by omega, rfl, by rw [show remem (formOf op) a b c 1 = remem (formOf op) a b c 0 from if_neg (by rintro ⟨h, _⟩; exact absurd (show hasZ (formOf op) 97 = false from h) (by rw [hz]; decide))], ⟨Hok.out, fun h => Hb.out h.2⟩, ⟨_, rfl⟩⟩
            case measure => simp [intOf]
        · have hz : hasZ (formOf op) 97 = false := by simpa using hz
          by_cases h0 : a = 0
          · have hbq : (a != 0) = false := bne_eq_false_iff_eq.2 h0
            have H0 := hid h0
            clear h0
            go_wp2_with (first | ((with_reducible refine gate_dst (N := 24) rfl ?_); refine Kd.event_run rfl (v := .int .i64 a) (w1 := w2.drewN m) (by as_aux_lemma => kernel_rfl) ?_) | ((with_reducible refine gate_dst (N := 28) rfl ?_); refine Kd.event_run rfl (v := .int .u8 97) (w1 := w2.drewN m) (by as_aux_lemma => kernel_rfl) ?_) | (go_at_call 41; (with_reducible refine (names_any _ _ _ (by omega)).mono ?_); rintro e w3 ⟨rfl, ⟨m3, rfl⟩⟩))
            go_roundw
            case rel => exact ⟨1, by omega, rfl, by rw [show remem (formOf op) a b c 1 = remem (formOf op) a b c 0 from if_neg (by rintro ⟨_, h⟩; exact h H0.out)], ⟨Hok.out, fun h => absurd (show hasZ (formOf op) 97 = true from h.1) (by rw [hz]; decide)⟩, ⟨_, rfl⟩⟩
            case measure => simp [intOf]
          · have hbq : (a != 0) = true := bne_iff_ne.2 h0
            have H0 := hid h0
            clear h0
            go_wp2_with (first | ((with_reducible refine gate_dst (N := 24) rfl ?_); refine Kd.event_run rfl (v := .int .i64 a) (w1 := w2.drewN m) (by as_aux_lemma => kernel_rfl) ?_) | ((with_reducible refine gate_dst (N := 28) rfl ?_); refine Kd.event_run rfl (v := .int .u8 97) (w1 := w2.drewN m) (by as_aux_lemma => kernel_rfl) ?_) | (go_at_call 41; (with_reducible refine (names_any _ _ _ (by omega)).mono ?_); rintro e w3 ⟨rfl, ⟨m3, rfl⟩⟩))
            go_roundw
            case rel => exact ⟨1, by omega, rfl, by rw [show remem (formOf op) a b c 1 = 1 from if_pos ⟨hz, H0.out⟩], ⟨Hok.out, fun h => absurd (show hasZ (formOf op) 97 = true from h.1) (by rw [hz]; decide)⟩, ⟨_, rfl⟩⟩
            case measure => simp [intOf]
      · have hok' : okReg (formOf op) a b c 1 := hok
        have Hok := hid hok'
        clear hok hok'
        by_cases hz : hasZ (formOf op) 98 = true
        · by_cases hbad : regBad b
          · have hres : checkOf op a b c n = 31 := check_bad (j := 1) (by decide) Hn.out Hok.out ⟨hz, hbad⟩
            have Hres := hid hres
            clear hres
            rcases hbad with hlt | hge
            · go_wp2_with (first | ((with_reducible refine gate_dst (N := 24) rfl ?_); refine Kd.event_run rfl (v := .int .i64 b) (w1 := w2.drewN m) (by as_aux_lemma => kernel_rfl) ?_) | ((with_reducible refine gate_dst (N := 28) rfl ?_); refine Kd.event_run rfl (v := .int .u8 98) (w1 := w2.drewN m) (by as_aux_lemma => kernel_rfl) ?_) | (go_at_call 41; (with_reducible refine (names_any _ _ _ (by omega)).mono ?_); rintro e w3 ⟨rfl, ⟨m3, rfl⟩⟩))
              (try rw [Exit.noGoto_ret])
              go_ret
              exact ⟨by rw [Hres.out]; rfl, pw_below_drewN HB.out _⟩
            · have hge0 : ¬ b < 0 := by omega
              go_wp2_with (first | ((with_reducible refine gate_dst (N := 24) rfl ?_); refine Kd.event_run rfl (v := .int .i64 b) (w1 := w2.drewN m) (by as_aux_lemma => kernel_rfl) ?_) | ((with_reducible refine gate_dst (N := 28) rfl ?_); refine Kd.event_run rfl (v := .int .u8 98) (w1 := w2.drewN m) (by as_aux_lemma => kernel_rfl) ?_) | (go_at_call 41; (with_reducible refine (names_any _ _ _ (by omega)).mono ?_); rintro e w3 ⟨rfl, ⟨m3, rfl⟩⟩))
              (try rw [Exit.noGoto_ret])
              go_ret
              exact ⟨by rw [Hres.out]; rfl, pw_below_drewN HB.out _⟩
          · have Hb := hid hbad
            have hlo : 0 ≤ b := by unfold regBad at hbad; omega
            have hhi : decide (16 ≤ b) = false := decide_eq_false (by unfold regBad at hbad; omega)
            clear hbad
            go_wp2_with (first | ((with_reducible refine gate_dst (N := 24) rfl ?_); refine Kd.event_run rfl (v := .int .i64 b) (w1 := w2.drewN m) (by as_aux_lemma => kernel_rfl) ?_) | ((with_reducible refine gate_dst (N := 28) rfl ?_); refine Kd.event_run rfl (v := .int .u8 98) (w1 := w2.drewN m) (by as_aux_lemma => kernel_rfl) ?_) | (go_at_call 41; (with_reducible refine (names_any _ _ _ (by omega)).mono ?_); rintro e w3 ⟨rfl, ⟨m3, rfl⟩⟩))
            go_roundw
            case rel => exact ⟨2, by omega, rfl, by rw [show remem (formOf op) a b c 2 = remem (formOf op) a b c 1 from if_neg (by rintro ⟨h, _⟩; exact absurd (show hasZ (formOf op) 98 = false from h) (by rw [hz]; decide))], ⟨Hok.out, fun h => Hb.out h.2⟩, ⟨_, rfl⟩⟩
            case measure => simp [intOf]
        · have hz : hasZ (formOf op) 98 = false := by simpa using hz
          by_cases h0 : b = 0
          · have hbq : (b != 0) = false := bne_eq_false_iff_eq.2 h0
            have H0 := hid h0
            clear h0
            go_wp2_with (first | ((with_reducible refine gate_dst (N := 24) rfl ?_); refine Kd.event_run rfl (v := .int .i64 b) (w1 := w2.drewN m) (by as_aux_lemma => kernel_rfl) ?_) | ((with_reducible refine gate_dst (N := 28) rfl ?_); refine Kd.event_run rfl (v := .int .u8 98) (w1 := w2.drewN m) (by as_aux_lemma => kernel_rfl) ?_) | (go_at_call 41; (with_reducible refine (names_any _ _ _ (by omega)).mono ?_); rintro e w3 ⟨rfl, ⟨m3, rfl⟩⟩))
            go_roundw
            case rel => exact ⟨2, by omega, rfl, by rw [show remem (formOf op) a b c 2 = remem (formOf op) a b c 1 from if_neg (by rintro ⟨_, h⟩; exact h H0.out)], ⟨Hok.out, fun h => absurd (show hasZ (formOf op) 98 = true from h.1) (by rw [hz]; decide)⟩, ⟨_, rfl⟩⟩
            case measure => simp [intOf]
          · have hbq : (b != 0) = true := bne_iff_ne.2 h0
            have H0 := hid h0
            clear h0
            go_wp2_with (first | ((with_reducible refine gate_dst (N := 24) rfl ?_); refine Kd.event_run rfl (v := .int .i64 b) (w1 := w2.drewN m) (by as_aux_lemma => kernel_rfl) ?_) | ((with_reducible refine gate_dst (N := 28) rfl ?_); refine Kd.event_run rfl (v := .int .u8 98) (w1 := w2.drewN m) (by as_aux_lemma => kernel_rfl) ?_) | (go_at_call 41; (with_reducible refine (names_any _ _ _ (by omega)).mono ?_); rintro e w3 ⟨rfl, ⟨m3, rfl⟩⟩))
            go_roundw
            case rel => exact ⟨2, by omega, rfl, by rw [show remem (formOf op) a b c 2 = 1 from if_pos ⟨hz, H0.out⟩], ⟨Hok.out, fun h => absurd (show hasZ (formOf op) 98 = true from h.1) (by rw [hz]; decide)⟩, ⟨_, rfl⟩⟩
            case measure => simp [intOf]
      · have hok' : okReg (formOf op) a b c 2 := hok
        have Hok := hid hok'
        clear hok hok'
        by_cases hz : hasZ (formOf op) 99 = true
        · by_cases hbad : regBad c
          · have hres : checkOf op a b c n = 31 := check_bad (j := 2) (by decide) Hn.out Hok.out ⟨hz, hbad⟩
            have Hres := hid hres
            clear hres
            rcases hbad with hlt | hge
            · go_wp2_with (first | ((with_reducible refine gate_dst (N := 24) rfl ?_); refine Kd.event_run rfl (v := .int .i64 c) (w1 := w2.drewN m) (by as_aux_lemma => kernel_rfl) ?_) | ((with_reducible refine gate_dst (N := 28) rfl ?_); refine Kd.event_run rfl (v := .int .u8 99) (w1 := w2.drewN m) (by as_aux_lemma => kernel_rfl) ?_) | (go_at_call 41; (with_reducible refine (names_any _ _ _ (by omega)).mono ?_); rintro e w3 ⟨rfl, ⟨m3, rfl⟩⟩))
              (try rw [Exit.noGoto_ret])
              go_ret
              exact ⟨by rw [Hres.out]; rfl, pw_below_drewN HB.out _⟩
            · have hge0 : ¬ c < 0 := by omega
              go_wp2_with (first | ((with_reducible refine gate_dst (N := 24) rfl ?_); refine Kd.event_run rfl (v := .int .i64 c) (w1 := w2.drewN m) (by as_aux_lemma => kernel_rfl) ?_) | ((with_reducible refine gate_dst (N := 28) rfl ?_); refine Kd.event_run rfl (v := .int .u8 99) (w1 := w2.drewN m) (by as_aux_lemma => kernel_rfl) ?_) | (go_at_call 41; (with_reducible refine (names_any _ _ _ (by omega)).mono ?_); rintro e w3 ⟨rfl, ⟨m3, rfl⟩⟩))
              (try rw [Exit.noGoto_ret])
              go_ret
              exact ⟨by rw [Hres.out]; rfl, pw_below_drewN HB.out _⟩
          · have Hb := hid hbad
            have hlo : 0 ≤ c := by unfold regBad at hbad; omega
            have hhi : decide (16 ≤ c) = false := decide_eq_false (by unfold regBad at hbad; omega)
            clear hbad
            go_wp2_with (first | ((with_reducible refine gate_dst (N := 24) rfl ?_); refine Kd.event_run rfl (v := .int .i64 c) (w1 := w2.drewN m) (by as_aux_lemma => kernel_rfl) ?_) | ((with_reducible refine gate_dst (N := 28) rfl ?_); refine Kd.event_run rfl (v := .int .u8 99) (w1 := w2.drewN m) (by as_aux_lemma => kernel_rfl) ?_) | (go_at_call 41; (with_reducible refine (names_any _ _ _ (by omega)).mono ?_); rintro e w3 ⟨rfl, ⟨m3, rfl⟩⟩))
            go_roundw
            case rel => exact ⟨3, by omega, rfl, by rw [show remem (formOf op) a b c 3 = remem (formOf op) a b c 2 from if_neg (by rintro ⟨h, _⟩; exact absurd (show hasZ (formOf op) 99 = false from h) (by rw [hz]; decide))], ⟨Hok.out, fun h => Hb.out h.2⟩, ⟨_, rfl⟩⟩
            case measure => simp [intOf]
        · have hz : hasZ (formOf op) 99 = false := by simpa using hz
          by_cases h0 : c = 0
          · have hbq : (c != 0) = false := bne_eq_false_iff_eq.2 h0
            have H0 := hid h0
            clear h0
            go_wp2_with (first | ((with_reducible refine gate_dst (N := 24) rfl ?_); refine Kd.event_run rfl (v := .int .i64 c) (w1 := w2.drewN m) (by as_aux_lemma => kernel_rfl) ?_) | ((with_reducible refine gate_dst (N := 28) rfl ?_); refine Kd.event_run rfl (v := .int .u8 99) (w1 := w2.drewN m) (by as_aux_lemma => kernel_rfl) ?_) | (go_at_call 41; (with_reducible refine (names_any _ _ _ (by omega)).mono ?_); rintro e w3 ⟨rfl, ⟨m3, rfl⟩⟩))
            go_roundw
            case rel => exact ⟨3, by omega, rfl, by rw [show remem (formOf op) a b c 3 = remem (formOf op) a b c 2 from if_neg (by rintro ⟨_, h⟩; exact h H0.out)], ⟨Hok.out, fun h => absurd (show hasZ (formOf op) 99 = true from h.1) (by rw [hz]; decide)⟩, ⟨_, rfl⟩⟩
            case measure => simp [intOf]
          · have hbq : (c != 0) = true := bne_iff_ne.2 h0
            have H0 := hid h0
            clear h0
            go_wp2_with (first | ((with_reducible refine gate_dst (N := 24) rfl ?_); refine Kd.event_run rfl (v := .int .i64 c) (w1 := w2.drewN m) (by as_aux_lemma => kernel_rfl) ?_) | ((with_reducible refine gate_dst (N := 28) rfl ?_); refine Kd.event_run rfl (v := .int .u8 99) (w1 := w2.drewN m) (by as_aux_lemma => kernel_rfl) ?_) | (go_at_call 41; (with_reducible refine (names_any _ _ _ (by omega)).mono ?_); rintro e w3 ⟨rfl, ⟨m3, rfl⟩⟩))
            go_roundw
            case rel => exact ⟨3, by omega, rfl, by rw [show remem (formOf op) a b c 3 = 1 from if_pos ⟨hz, H0.out⟩], ⟨Hok.out, fun h => absurd (show hasZ (formOf op) 99 = true from h.1) (by rw [hz]; decide)⟩, ⟨_, rfl⟩⟩
            case measure => simp [intOf]
      · have hok' : okReg (formOf op) a b c 3 := hok
        have hres := check_end (n := n) Hn.out hok'
        clear hok hok'
        by_cases hz : hasZ (formOf op) 110 = true
        · by_cases hbad : nBad (formOf op) n
          · have hb := hbad
            rw [if_pos hbad] at hres
            have Hres := hid hres
            clear hbad hres
            unfold nBad at hb
            rw [if_pos hz] at hb
            rcases hb with hlt | hgt
            · go_wp2_with (go_at_call 41; (with_reducible refine (names_any _ _ _ (by omega)).mono ?_); rintro e w3 ⟨rfl, ⟨m3, rfl⟩⟩)
              go_ret
              exact ⟨by rw [Hres.out]; rfl, pw_below_drewN HB.out _⟩
            · have hge0 : ¬ n < -2147483648 := by omega
              go_wp2_with (go_at_call 41; (with_reducible refine (names_any _ _ _ (by omega)).mono ?_); rintro e w3 ⟨rfl, ⟨m3, rfl⟩⟩)
              go_ret
              exact ⟨by rw [Hres.out]; rfl, pw_below_drewN HB.out _⟩
          · have hb := hbad
            rw [if_neg hbad] at hres
            have Hres := hid hres
            clear hbad hres
            unfold nBad at hb
            rw [if_pos hz] at hb
            have hlo : -2147483648 ≤ n := by omega
            have hhi : decide (2147483647 < n) = false := decide_eq_false (by omega)
            clear hb
            go_wp2_with (go_at_call 41; (with_reducible refine (names_any _ _ _ (by omega)).mono ?_); rintro e w3 ⟨rfl, ⟨m3, rfl⟩⟩)
            go_ret
            exact ⟨by rw [Hres.out]; rfl, pw_below_drewN HB.out _⟩
        · have hz : hasZ (formOf op) 110 = false := by simpa using hz
          have hz' : ¬ hasZ (formOf op) 110 = true := by rw [hz]; decide
          by_cases h0 : n = 0
          · have hbq : (n != 0) = false := bne_eq_false_iff_eq.2 h0
            rw [if_neg (by unfold nBad; rw [if_neg hz']; exact fun h => h h0)] at hres
            have Hres := hid hres
            clear h0 hz' hres
            go_wp2_with (go_at_call 41; (with_reducible refine (names_any _ _ _ (by omega)).mono ?_); rintro e w3 ⟨rfl, ⟨m3, rfl⟩⟩)
            go_ret
            exact ⟨by rw [Hres.out]; rfl, pw_below_drewN HB.out _⟩
          · have hbq : (n != 0) = true := bne_iff_ne.2 h0
            rw [if_pos (by unfold nBad; rw [if_neg hz']; exact h0)] at hres
            have Hres := hid hres
            clear h0 hz' hres
            go_wp2_with (go_at_call 41; (with_reducible refine (names_any _ _ _ (by omega)).mono ?_); rintro e w3 ⟨rfl, ⟨m3, rfl⟩⟩)
            go_ret
            exact ⟨by rw [Hres.out]; rfl, pw_below_drewN HB.out _⟩
end Go.Proofs.Ytebjdjdlpmplpaa.Isa
