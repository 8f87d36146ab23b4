/- rts.Same of a text's object and itself. -/
import Derived.Test.YtdhfnfoimbijmaaGetT
namespace Go.Proofs.Ytdhfnfoimbijmaa.Mem
open Go.RowKit Go.Shelf Go.Proofs.YtdhfnfoimbijmaaW.PrintWords Go.Proofs.YtdhfnfoimbijmaaW.PrintLast Go.Proofs.YtdhfnfoimbijmaaW.PrintMore
open Hf (rightB hdr headOf partsOf)
open Num (bts word)
set_option linter.unusedSimpArgs false
set_option linter.unusedVariables false
variable {S : Nat → Prop} {w w' : World} {g mb n B : Nat} {st : St} {vw vh ow oh : Value}
theorem info91 : (Try.prog.info? 91).map (fun i => (i.zero, i.size, i.bytes)) = some (some (.agg #[.int .u64 0, .int .u64 0]), 2, 16) := by kernel_rfl
set_option maxHeartbeats 4000000 in
set_option maxRecDepth 100000 in
theorem same_text (M : IsMem S w g st) (i : Nat) (hi : i < st.os.length) (s : ByteArray) (hs : st.os[i] = textO s) (a : Int) (ha : a = st.f + (pos st.os i : Int)) :
    Calls Try.prog 21 #[.pointer (some ⟨g, 0, none⟩), .int .u64 (2 * a), .int .u64 (2 * a), .int .i64 5] w fun e w' => e = .returned (.tuple #[.int .i64 1, .int .i64 1, .int .i64 0]) ∧ Below w.heap.size w w' := by
  obtain ⟨b1, b2, b3⟩ := M.fbound
  have hph := pos_head st.os i hi
  have hlen : (textO s).fs.length = nw s + 1 := by simp [textO]
  rw [hs, hlen] at hph
  have hpr : 1 ≤ a ∧ a ≤ 300000 := by omega
  have hT : ∀ W, Calls Try.prog 52 #[.int .u64 (2 * a)] W fun e w' => e = .returned (.int .i64 a) ∧ Drawn0 W w' := fun W => Pa.num_ToPtr.calls _ _ W (toPtr_even hpr)
  have hI : ∀ W, Calls Try.prog 53 #[.int .u64 (2 * a)] W fun e w' => e = .returned (.bool false) ∧ Drawn0 W w' := fun W => Pa.num_IsInt.calls _ _ W (by
    rw [isInt_f (by omega)]
    congr 1
    rw [beq_eq_false_iff_ne]
    omega)
  have hK : ∀ W, Below w.heap.size w W → Calls Try.prog 51 #[.pointer (some ⟨g, 0, none⟩), .int .i64 a] W fun e w' => e = .returned (.tuple #[.int .i64 4, .int .i64 ((nw s : Int) + 1), .int .i64 0, .int .i64 0]) ∧ Drawn0 W w' := by
    intro W hb
    have h := (M.below hb).look i hi
    rw [← ha, hs, hlen] at h
    rw [show ((nw s + 1 : Nat) : Int) = (nw s : Int) + 1 from by omega] at h
    exact h
  have hF : ∀ W, Below w.heap.size w W → Calls Try.prog 54 #[.pointer (some ⟨g, 0, none⟩), .int .i64 a, .int .i64 ((nw s : Int) + 1)] W fun e w' => ∃ v, e = .returned v ∧ (Kd.int .u64).R 37 w' W.heap.size (fun _ => True) v ((s.size : Int) :: Fa.PK s) ∧ Below W.heap.size W w' := by
    intro W hb
    have h := fields_any (M.below hb) i hi (by rw [hs, hlen]; omega)
    rw [← ha, hs, hlen, textO_fs] at h
    rw [show ((nw s + 1 : Nat) : Int) = (nw s : Int) + 1 from by omega] at h
    exact h
  have hpk : (Fa.PK s).length = nw s := Fa.PK_length s
  have hnw : nw s ≤ 65536 := by omega
  clear M hlen hph ha hs
  have hB0 := Below.refl w.heap.size w
  go_enter Try.func21, Try.ntmps21
  go_wp2_with fail
  go_step3
  go_wp2_with fail
  go_step3
  go_wp2_with fail
  have hq0 : (w.alloc (.cells #[.int .u64 (2 * a), .int .u64 (2 * a)] 91)).cell? ⟨w.heap.size, 0, none⟩ = some (.int .u64 (2 * a)) := (World.cell?_alloc_at _ _ _ _ rfl).trans rfl
  have hq1 : (w.alloc (.cells #[.int .u64 (2 * a), .int .u64 (2 * a)] 91)).cell? ⟨w.heap.size, 1, none⟩ = some (.int .u64 (2 * a)) := (World.cell?_alloc_at _ _ _ _ rfl).trans rfl
  have hB1 := hB0.alloc (Nat.le_refl _) (.cells #[.int .u64 (2 * a), .int .u64 (2 * a)] 91)
  have hs1 : w.heap.size < (w.alloc (.cells #[.int .u64 (2 * a), .int .u64 (2 * a)] 91)).heap.size := by rw [World.size_alloc]; omega
  go_loopw [11, 12, 13] (fun td steps ans wr => ∃ k : Nat, k ≤ 1 ∧ td = .slice (some ⟨w.heap.size, 0, none⟩) (1 - k) 1 ∧ steps = .int .i64 (k : Int) ∧ ans = .int .i64 1 ∧ wr.cell? ⟨w.heap.size, 0, none⟩ = some (.int .u64 (2 * a)) ∧ wr.cell? ⟨w.heap.size, 1, none⟩ = some (.int .u64 (2 * a)) ∧ Below w.heap.size w wr ∧ w.heap.size < wr.heap.size)
    (fun _ steps _ _ => 1 - (intOf steps).toNat)
  case atStart => exact ⟨0, Nat.zero_le _, rfl, rfl, rfl, hq0, hq1, hB1, hs1⟩
  case round =>
    clear hq0 hq1 hB1 hs1
    obtain ⟨k, hk, rfl, rfl, rfl, hq0, hq1, hB, hlt⟩ := hrel
    by_cases hk0 : k = 0
    · subst hk0
      obtain ⟨i91, hi91, _, hsz91, _⟩ := info_parts info91
      have hcut := cut_to (P := Try.prog) 92 91 .i64 Try.underlying92 hi91 (some ⟨w.heap.size, 0, none⟩) 1 1 (0 : Int) (by omega) (by omega) (by omega)
      rw [show (0 : Int).toNat = 0 from rfl] at hcut
      have hz1 : decide ((0 : Int) < ((1 : Nat) : Int)) = true := by decide
      simp only [Nat.sub_zero]
      have hp0 : (wr.alloc (.cells #[.int .u64 (2 * a), .int .u64 (2 * a)] 91)).cell? ⟨wr.heap.size, 0, none⟩ = some (.int .u64 (2 * a)) := (World.cell?_alloc_at _ _ _ _ rfl).trans rfl
      have hp1 : (wr.alloc (.cells #[.int .u64 (2 * a), .int .u64 (2 * a)] 91)).cell? ⟨wr.heap.size, 1, none⟩ = some (.int .u64 (2 * a)) := (World.cell?_alloc_at _ _ _ _ rfl).trans rfl
      have hBp := hB.alloc (by omega) (.cells #[.int .u64 (2 * a), .int .u64 (2 * a)] 91)
      have hqp0 : (wr.alloc (.cells #[.int .u64 (2 * a), .int .u64 (2 * a)] 91)).cell? ⟨w.heap.size, 0, none⟩ = some (.int .u64 (2 * a)) := (World.cell?_alloc_past _ _ _ hlt).trans hq0
      have hqp1 : (wr.alloc (.cells #[.int .u64 (2 * a), .int .u64 (2 * a)] 91)).cell? ⟨w.heap.size, 1, none⟩ = some (.int .u64 (2 * a)) := (World.cell?_alloc_past _ _ _ hlt).trans hq1
      have hlp : wr.heap.size < (wr.alloc (.cells #[.int .u64 (2 * a), .int .u64 (2 * a)] 91)).heap.size := by rw [World.size_alloc]; omega
      go_wp2_with fail
      clear hq0 hq1 hB
      revert hp0 hp1 hBp hqp0 hqp1 hlp
      generalize wr.alloc (.cells #[.int .u64 (2 * a), .int .u64 (2 * a)] 91) = wp
      intro hp0 hp1 hBp hqp0 hqp1 hlp
      (with_reducible refine Calls.mono (hT _) ?_)
      rintro e w1 ⟨rfl, hd1⟩
      have hB1 := hBp.trans (hd1.below.mono (by omega))
      have hb1 : Below wp.heap.size wp w1 := hd1.below
      go_wp2_with fail
      (with_reducible refine Calls.mono (hK _ hB1) ?_)
      rintro e w2 ⟨rfl, hd2⟩
      have hB2 := hB1.trans (hd2.below.mono hB1.size)
      have hb2 := hb1.trans (hd2.below.mono hb1.size)
      have hp0 := (hb2.cell (p := ⟨wr.heap.size, 0, none⟩) hlp).trans hp0
      have hp1 := (hb2.cell (p := ⟨wr.heap.size, 1, none⟩) hlp).trans hp1
      have hl2 : wr.heap.size < w2.heap.size := Nat.lt_of_lt_of_le hlp hb2.size
      clear hd1 hd2 hB1 hb1
      go_wp2_with fail
      (with_reducible refine Calls.mono (hT _) ?_)
      rintro e w3 ⟨rfl, hd3⟩
      have hB3 := hB2.trans (hd3.below.mono hB2.size)
      have hb3 := hb2.trans (hd3.below.mono hb2.size)
      clear hB2 hb2
      go_wp2_with fail
      (with_reducible refine Calls.mono (hK _ hB3) ?_)
      rintro e w4 ⟨rfl, hd4⟩
      have hB4 := hB3.trans (hd4.below.mono hB3.size)
      have hb4 := hb3.trans (hd4.below.mono hb3.size)
      have hd34 := hd3.below.trans (hd4.below.mono hd3.below.size)
      have hp0 := (hd34.cell (p := ⟨wr.heap.size, 0, none⟩) hl2).trans hp0
      have hp1 := (hd34.cell (p := ⟨wr.heap.size, 1, none⟩) hl2).trans hp1
      have hl4 : wr.heap.size < w4.heap.size := Nat.lt_of_lt_of_le hlp hb4.size
      clear hd3 hd4 hB3 hb3 hd34
      go_wp2_with fail
      have m0 : w4.drew.cell? ⟨wr.heap.size, 0, none⟩ = some (.int .u64 (2 * a)) := hp0
      have m1 : w4.drew.cell? ⟨wr.heap.size, 1, none⟩ = some (.int .u64 (2 * a)) := hp1
      go_region_held3 (fun W' => W'.cell? ⟨wr.heap.size, 0, none⟩ = some (.int .u64 (2 * a)) ∧ W'.cell? ⟨wr.heap.size, 1, none⟩ = some (.int .u64 (2 * a)))
        (first | (with_reducible exact ⟨hp0, hp1⟩) | (with_reducible exact ⟨m0, m1⟩))
        (first
          | (go_at_call 53; (with_reducible refine Calls.mono (hI w4.drew) ?_); rintro e w5 ⟨rfl, hd5⟩; have m0 := (hd5.below.cell (p := ⟨wr.heap.size, 0, none⟩) hl4).trans m0; have m1 := (hd5.below.cell (p := ⟨wr.heap.size, 1, none⟩) hl4).trans m1)
          | (go_at_call 53; (with_reducible refine Calls.mono (hI w5) ?_); rintro e w6 ⟨rfl, hd6⟩; have m0 := (hd6.below.cell (p := ⟨wr.heap.size, 0, none⟩) (Nat.lt_of_lt_of_le hl4 hd5.below.size)).trans m0; have m1 := (hd6.below.cell (p := ⟨wr.heap.size, 1, none⟩) (Nat.lt_of_lt_of_le hl4 hd5.below.size)).trans m1))
      have h46 : Below w4.heap.size w4 w6 := Below.trans ⟨hd5.below.os, hd5.below.tape, hd5.below.output, hd5.below.size, hd5.below.block⟩ (hd6.below.mono hd5.below.size)
      have hB6 := hB4.trans (h46.mono hB4.size)
      have hl6 : wr.heap.size < w6.heap.size := Nat.lt_of_lt_of_le hl4 h46.size
      have hBd : Below w.heap.size w w6.drew := ⟨hB6.os, hB6.tape, hB6.output, hB6.size, hB6.block⟩
      have hb6 := hb4.trans (h46.mono hb4.size)
      clear hd5 hd6 h46 hb4 hI
      go_wp2_with fail
      have n0 : w6.cell? ⟨wr.heap.size, 0, none⟩ = some (.int .u64 (2 * a)) := m0
      have n1 : w6.cell? ⟨wr.heap.size, 1, none⟩ = some (.int .u64 (2 * a)) := m1
      have m0 : w6.drew.cell? ⟨wr.heap.size, 0, none⟩ = some (.int .u64 (2 * a)) := n0
      have m1 : w6.drew.cell? ⟨wr.heap.size, 1, none⟩ = some (.int .u64 (2 * a)) := n1
      go_region_held3 (fun W' => W'.cell? ⟨wr.heap.size, 0, none⟩ = some (.int .u64 (2 * a)) ∧ W'.cell? ⟨wr.heap.size, 1, none⟩ = some (.int .u64 (2 * a)))
        (first | (with_reducible exact ⟨n0, n1⟩) | (with_reducible exact ⟨m0, m1⟩))
        (first
          | (go_at_call 52; (with_reducible refine Calls.mono (hT w6.drew) ?_); rintro e w7 ⟨rfl, hd7⟩; have m0 := (hd7.below.cell (p := ⟨wr.heap.size, 0, none⟩) hl6).trans m0; have m1 := (hd7.below.cell (p := ⟨wr.heap.size, 1, none⟩) hl6).trans m1; have hl7 : wr.heap.size < w7.heap.size := Nat.lt_of_lt_of_le hl6 hd7.below.size; have hB7 := hBd.trans (hd7.below.mono hBd.size))
          | (go_at_call 54; (with_reducible refine Calls.mono (hF w7 hB7) ?_); rintro e w8 ⟨v8, rfl, hR8, hb8⟩; have m0 := (hb8.cell (p := ⟨wr.heap.size, 0, none⟩) hl7).trans m0; have m1 := (hb8.cell (p := ⟨wr.heap.size, 1, none⟩) hl7).trans m1; have hl8 : wr.heap.size < w8.heap.size := Nat.lt_of_lt_of_le hl7 hb8.size; have hB8 := hB7.trans (hb8.mono hB7.size); obtain ⟨g8, c8, rfl, hg8, hl8', -⟩ := Kd.R_form hR8 (by simp))
          | (go_at_call 52; (with_reducible refine Calls.mono (hT w8) ?_); rintro e w9 ⟨rfl, hd9⟩; have m0 := (hd9.below.cell (p := ⟨wr.heap.size, 0, none⟩) hl8).trans m0; have m1 := (hd9.below.cell (p := ⟨wr.heap.size, 1, none⟩) hl8).trans m1; have hl9 : wr.heap.size < w9.heap.size := Nat.lt_of_lt_of_le hl8 hd9.below.size; have hB9 := hB8.trans (hd9.below.mono hB8.size))
          | (go_at_call 54; (with_reducible refine Calls.mono (hF w9 hB9) ?_); rintro e w10 ⟨v10, rfl, hR10, hb10⟩; have m0 := (hb10.cell (p := ⟨wr.heap.size, 0, none⟩) hl9).trans m0; have m1 := (hb10.cell (p := ⟨wr.heap.size, 1, none⟩) hl9).trans m1; have hB10 := hB9.trans (hb10.mono hB9.size); obtain ⟨g10, c10, rfl, hg10, hl10', -⟩ := Kd.R_form hR10 (by simp)))
      have hln : ((s.size : Int) :: Fa.PK s).length = nw s + 1 := by rw [List.length_cons, hpk]
      have hR8 := Kd.R_lower (Kd.R_below (Kd.R_below hR8 hd9.below) hb10) (base' := 0) (Nat.zero_le _)
      have hR10 := Kd.R_lower hR10 (base' := 0) (Nat.zero_le _)
      have h67 : Below w6.heap.size w6 w7 := ⟨hd7.below.os, hd7.below.tape, hd7.below.output, hd7.below.size, hd7.below.block⟩
      have h68 := h67.trans (hb8.mono h67.size)
      have h69 := h68.trans (hd9.below.mono h68.size)
      have h610 := h69.trans (hb10.mono h69.size)
      have hp10 := hb6.trans (h610.mono hb6.size)
      have hlw : w.heap.size < wp.heap.size := by omega
      have hq0 := (hp10.cell (p := ⟨w.heap.size, 0, none⟩) hlw).trans hqp0
      have hq1 := (hp10.cell (p := ⟨w.heap.size, 1, none⟩) hlw).trans hqp1
      have hl10 : w.heap.size < w10.heap.size := Nat.lt_of_lt_of_le hlw hp10.size
      rw [hln] at hR8 hR10
      clear h67 h68 h69 h610 hp10 hqp0 hqp1 hd7 hd9 hb8 hb10 hb6 hBd hB6 hB7 hB8 hB9 hBp hT hK hF m0 m1 n0 n1 hp0 hp1 hB4
      go_wp2_with fail
      go_loopw [13, 148] (fun ans i wr' => ∃ j : Nat, j ≤ nw s + 1 ∧ ans = .int .i64 1 ∧ i = .int .i64 (j : Int) ∧ Below w10.heap.size w10 wr') (fun _ i _ => (nw s + 1) - (intOf i).toNat)
      case atStart => exact ⟨0, Nat.zero_le _, rfl, rfl, Below.refl _ _⟩
      case round =>
        obtain ⟨j, hj, rfl, rfl, hbj⟩ := hrel
        by_cases hjl : j < nw s + 1
        · have hd1 : decide ((j : Int) < ((nw s + 1 : Nat) : Int)) = true := decide_eq_true (by omega)
          have hd0 : decide (0 ≤ (j : Int)) = true := decide_eq_true (by omega)
          have hc8 := (Kd.R_celln (0 : Int) (Kd.R_below hR8 hbj) (j : Int) (by omega) (by omega)).1
          have hc10 := (Kd.R_celln (0 : Int) (Kd.R_below hR10 hbj) (j : Int) (by omega) (by omega)).1
          obtain ⟨x, hx⟩ : ∃ x, rdOf 0 ((s.size : Int) :: Fa.PK s) (j : Int) = x := ⟨_, rfl⟩
          rw [hx, Int.toNat_natCast] at hc8 hc10
          have hxx : (x != x) = false := by simp
          clear hx hR8 hR10
          go_wp2_with fail
          go_quiet (fail)
          go_wp2_with fail
          exact ⟨⟨j + 1, by omega, rfl, by simp, hbj.trans (Below.mono (pw_below_drewN (Below.refl wr.heap.size wr) _) hbj.size)⟩, by simp [intOf]; omega⟩
        · obtain rfl : j = nw s + 1 := by omega
          have hd1 : decide (((nw s + 1 : Nat) : Int) < ((nw s + 1 : Nat) : Int)) = false := decide_eq_false (by omega)
          go_wp2_with fail
          exact ⟨⟨1, Nat.le_refl _, rfl, rfl, rfl, (hbj.cell (p := ⟨w.heap.size, 0, none⟩) hl10).trans hq0, (hbj.cell (p := ⟨w.heap.size, 1, none⟩) hl10).trans hq1, hB10.trans (hbj.mono hB10.size), Nat.lt_of_lt_of_le hl10 hbj.size⟩, by simp [intOf]⟩
    · obtain rfl : k = 1 := by omega
      go_wp2_with fail
      rw [Exit.noGoto_ret]
      go_ret3
      exact ⟨rfl, hB⟩
end Go.Proofs.Ytdhfnfoimbijmaa.Mem
