/- Objects as lists, and what (*space).at answers: a view of an object's words, or nothing. -/
import Derived.Test.YtjccaojlldkmpaaMem3
import Derived.WalkMore
import Derived.BigQuiet
namespace Go.Proofs.Ytjccaojlldkmpaa.Mem
open Go.RowKit Go.Proofs.YtjccaojlldkmpaaW.PrintWords Go.Proofs.YtjccaojlldkmpaaW.PrintMore
open Hf (rightB hdr headOf partsOf)
set_option linter.unusedSimpArgs false
set_option linter.unusedVariables false
/-- An object: its header's kind and number of tagged fields, its fields. -/
structure O where
  kind : Int
  tag : Int
  fs : List Int
def O.row (o : O) : List Int := hdr o.kind o.fs.length o.tag :: o.fs
def O.ok (o : O) : Prop := rightB o.kind o.fs.length o.tag = true ∧ ∀ x ∈ o.fs, 0 ≤ x ∧ x < 18446744073709551616
/-- The words of objects, one behind the other. -/
def flat (os : List O) : List Int := os.flatMap O.row
def pos (os : List O) (i : Nat) : Nat := (flat (os.take i)).length
/-- Their addresses. -/
def heads (f : Int) (os : List O) : List Int := (List.range os.length).map fun i => f + (pos os i : Int)
theorem flat_append (a b : List O) : flat (a ++ b) = flat a ++ flat b := by simp [flat]
theorem flat_one (o : O) : flat [o] = o.row := by simp [flat]
theorem row_length (o : O) : o.row.length = o.fs.length + 1 := rfl
theorem pos_succ (os : List O) (i : Nat) (h : i < os.length) : pos os (i + 1) = pos os i + (os[i].fs.length + 1) := by
  unfold pos
  rw [List.take_add_one, List.getElem?_eq_getElem h, flat_append, List.length_append]
  show _ + (flat [os[i]]).length = _
  rw [flat_one, row_length]
theorem pos_add (os : List O) (i d : Nat) : i + d ≤ os.length → pos os i + d ≤ pos os (i + d) := by
  induction d with
  | zero => intro _; exact Nat.le_refl _
  | succ d ih =>
    intro h
    have := ih (by omega)
    have := pos_succ os (i + d) (by omega)
    rw [show i + (d + 1) = i + d + 1 by omega]
    omega
theorem pos_lt (os : List O) (i j : Nat) (h : i < j) (hj : j ≤ os.length) : pos os i < pos os j := by
  have := pos_add os i (j - i) (by omega)
  rw [show i + (j - i) = j by omega] at this
  omega
theorem pos_all (os : List O) : pos os os.length = (flat os).length := by unfold pos; rw [List.take_length]
theorem heads_length (f : Int) (os : List O) : (heads f os).length = os.length := by simp [heads]
theorem heads_get (f : Int) (os : List O) (i : Nat) (h : i < os.length) : (heads f os)[i]? = some (f + (pos os i : Int)) := by simp [heads, h]
theorem heads_getD (f : Int) (os : List O) (i : Nat) (h : i < os.length) : rdOf 0 (heads f os) (i : Int) = f + (pos os i : Int) := by
  unfold rdOf
  rw [Int.toNat_natCast, List.getD, heads_get f os i h]
  rfl
theorem heads_append (f : Int) (os : List O) (o : O) : heads f (os ++ [o]) = heads f os ++ [f + ((flat os).length : Int)] := by
  unfold heads
  rw [List.length_append, List.length_singleton, List.range_succ, List.map_append, List.map_singleton]
  have h1 : pos (os ++ [o]) os.length = (flat os).length := by simp [pos]
  have h2 : (List.range os.length).map (fun i => f + (pos (os ++ [o]) i : Int)) = (List.range os.length).map (fun i => f + (pos os i : Int)) := by
    apply List.map_congr_left
    intro i hi
    rw [List.mem_range] at hi
    unfold pos
    rw [List.take_append_of_le_length (by omega)]
  rw [h1, h2]
theorem len_le (os : List O) : os.length ≤ (flat os).length := by
  have := pos_add os 0 os.length (by omega)
  rw [Nat.zero_add, pos_all] at this
  omega
theorem flat_at (os : List O) (i : Nat) (h : i < os.length) : flat os = flat (os.take i) ++ (os[i].row ++ flat (os.drop (i + 1))) := by
  conv => lhs; rw [← List.take_append_drop i os]
  rw [flat_append, List.drop_eq_getElem_cons h]
  congr 1
theorem pos_head (os : List O) (i : Nat) (h : i < os.length) : pos os i + os[i].fs.length + 1 ≤ (flat os).length := by
  have h1 := congrArg List.length (flat_at os i h)
  rw [List.length_append, List.length_append, row_length] at h1
  unfold pos
  omega
theorem flat_word (os : List O) (i j : Nat) (h : i < os.length) (hj : j ≤ os[i].fs.length) : rdOf 0 (flat os) ((pos os i + j : Nat) : Int) = os[i].row.getD j 0 := by
  unfold rdOf
  rw [Int.toNat_natCast, flat_at os i h, List.getD, List.getD]
  unfold pos
  rw [List.getElem?_append_right (by omega), show (flat (os.take i)).length + j - (flat (os.take i)).length = j by omega, List.getElem?_append_left (by rw [row_length]; omega)]

/-- There is no such object. -/
def NoHead (f : Int) (os : List O) (a : Int) : Prop := ∀ i, i < os.length → f + (pos os i : Int) ≠ a
theorem mid_of (lo hi : Nat) : wrap64 (Int.tdiv ((lo : Int) + (hi : Int)) 2) = (((lo + hi) / 2 : Nat) : Int) ∨ True := .inr trivial
set_option maxHeartbeats 4000000 in
set_option maxRecDepth 100000 in
theorem at_any (w : World) (g j : Nat) (f : Int) (os : List O) (gw n c : Nat) (aw : Option Addr) (ah : Option Addr) (nh ch : Nat) (a : Int)
    (hok : ∀ o ∈ os, O.ok o) (hf : 0 ≤ f ∧ f ≤ 200000) (hl : (flat os).length ≤ 65536) (ha : -9223372036854775808 ≤ a ∧ a ≤ 9223372036854775807)
    (hc0 : w.cell? ⟨g, j, none⟩ = some (.int .i64 f)) (hc1 : w.cell? ⟨g, j + 1, none⟩ = some (.slice aw n c)) (hc2 : w.cell? ⟨g, j + 2, none⟩ = some (.slice ah nh ch))
    (HW : Ws w (.slice aw n c) (flat os)) (HH : Hs w (.slice ah nh ch) (heads f os)) :
    Calls Try.prog 67 #[.pointer (some ⟨g, j, none⟩), .int .i64 a] w fun e w' => ((∃ (i gw : Nat) (h : i < os.length), a = f + (pos os i : Int) ∧ aw = some ⟨gw, 0, none⟩ ∧ e = .returned (.slice (some ⟨gw, pos os i, none⟩) (os[i].fs.length + 1) (c - pos os i))) ∨
      (NoHead f os a ∧ e = .returned (.slice none 0 0))) ∧ Drawn0 w w' := by
  have hnh : nh = os.length := by have := (Kd.R_reads' HH).1; rw [heads_length] at this; exact this
  have hnw : n = (flat os).length := (Kd.R_reads' HW).1
  have hlen := len_le os
  go_enter Try.func67, Try.ntmps67
  go_wp2_with fail
  go_step3
  go_wp2_with fail
  go_quiet (fail)
  go_wp2_with fail
  go_step3
  go_wp2_with fail
  go_loop [5, 6] (fun lo hi => ∃ L H : Nat, lo = .int .i64 L ∧ hi = .int .i64 H ∧ L ≤ H ∧ H ≤ os.length ∧ (∀ i, i < L → f + (pos os i : Int) < a) ∧ (∀ i, H ≤ i → i < os.length → a < f + (pos os i : Int))) (fun lo hi => (intOf hi - intOf lo).toNat)
  case atStart => exact ⟨0, os.length, rfl, rfl, Nat.zero_le _, Nat.le_refl _, fun i hi => absurd hi (Nat.not_lt_zero i), fun i h1 h2 => absurd h2 (by omega)⟩
  case round =>
    obtain ⟨L, H, rfl, rfl, hLH, hHl, hlo, hhi⟩ := hrel
    by_cases hlt : L < H
    · have hd : decide ((L : Int) < (H : Int)) = true := decide_eq_true (by omega)
      obtain ⟨M, hM⟩ : ∃ M : Nat, M = (L + H) / 2 := ⟨_, rfl⟩
      have hMi : ((L : Int) + (H : Int)) / 2 = (M : Int) := by omega
      obtain ⟨gh, ch', eh, -, hgh, -⟩ := Kd.R_form HH (by rw [heads_length]; omega)
      injection eh with eh1 eh2 eh3
      subst eh1
      have hcm := (Kd.R_celln (0 : Int) HH (M : Int) (by omega) (by omega)).1
      rw [heads_getD f os M (by omega), Int.toNat_natCast] at hcm
      have hi0 : decide (0 ≤ (M : Int)) = true := decide_eq_true (by omega)
      have hi1 : decide ((M : Int) < (os.length : Int)) = true := decide_eq_true (by omega)
      have hML : L ≤ M := by omega
      have hMH : M < H := by omega
      clear hM eh2 eh3
      by_cases he : f + (pos os M : Int) = a
      · have ht : ((f + (pos os M : Int)) == a) = true := beq_iff_eq.2 he
        have hlt2 : decide ((M : Int) ≥ (H : Int)) = false := decide_eq_false (by omega)
        have hMo : M < os.length := by omega
        have hph := pos_head os M hMo
        obtain ⟨gw, cw, ew, -, hgw, -⟩ := Kd.R_form HW (by omega)
        injection ew with ew1 ew2 ew3
        subst ew1
        have hcw := (Kd.R_celln (0 : Int) HW (pos os M : Int) (by omega) (by omega)).1
        have hfw := flat_word os M 0 hMo (by omega)
        rw [Nat.add_zero] at hfw
        rw [hfw, Int.toNat_natCast, show os[M].row.getD 0 0 = hdr os[M].kind os[M].fs.length os[M].tag from rfl] at hcw
        have hcap : n ≤ c := (Kd.R_reads' HW).2.1
        obtain ⟨i022, hi022, _, hsz22, _⟩ := info_parts info22
        have hcut := cut_from (P := Try.prog) 32 56 .i64 Try.underlying32 hi022 1 hsz22 (some ⟨gw, 0, none⟩) n c (pos os M : Int) (by omega) (by omega)
        rw [Int.toNat_natCast, if_neg (show ¬ c = pos os M by omega)] at hcut
        simp only [Option.map_some, Addr.add, Nat.zero_add, Nat.mul_one] at hcut
        have hoff : a - f = (pos os M : Int) := by omega
        have ho := hok _ (List.getElem_mem hMo)
        have hu := Hf.hdr_u64 ho.1
        have hpf := Hf.parts_f 0 _ hu.1 hu.2
        rw [Hf.parts_hdr ho.1] at hpf
        have hfl : (os[M].fs.length : Int) ≤ 16384 := (Hf.right_parts ho.1).2.2.2.1
        have hcut2 := cut_to (P := Try.prog) 32 56 .i64 Try.underlying32 hi022 (some ⟨gw, pos os M, none⟩) (n - pos os M) (c - pos os M) ((os[M].fs.length : Int) + 1) (by omega) (by omega) (by omega)
        rw [show ((os[M].fs.length : Int) + 1).toNat = os[M].fs.length + 1 by omega] at hcut2
        have hi2 : decide ((0 : Int) < ((n - pos os M : Nat) : Int)) = true := decide_eq_true (by omega)
        have hi3 : 0 < n - pos os M := by omega
        clear ew2 ew3 hfw hi022 hsz22
        go_wp2_with fail
        go_quiet (fail)
        go_wp2_with (first | (go_at_call 68; (with_reducible refine (Hd.mem_Parts.calls 2 _ _ _ _ _ _ hpf).mono ?_); rintro e w5 ⟨rfl, ⟨m5, rfl⟩⟩))
        rw [Exit.noGoto_ret]
        go_ret
        exact ⟨.inl ⟨M, gw, hMo, he.symm, rfl, rfl⟩, ⟨_, rfl⟩⟩
      · have ht : ((f + (pos os M : Int)) == a) = false := beq_eq_false_iff_ne.2 he
        by_cases hl2 : f + (pos os M : Int) < a
        · have ht2 : decide (f + (pos os M : Int) < a) = true := decide_eq_true hl2
          go_wp2_with fail
          go_round
          case rel =>
            refine ⟨M + 1, H, rfl, rfl, by omega, hHl, fun i hi => ?_, hhi⟩
            by_cases e : i = M
            · subst e; exact hl2
            · have := pos_lt os i M (by omega) (by omega)
              omega
          case measure => simp [intOf]; omega
        · have ht2 : decide (f + (pos os M : Int) < a) = false := decide_eq_false hl2
          go_wp2_with fail
          go_round
          case rel =>
            refine ⟨L, M, rfl, by rw [hMi], hML, by omega, hlo, fun i h1 h2 => ?_⟩
            by_cases e : i = M
            · subst e; omega
            · have := pos_lt os M i (by omega) (by omega)
              omega
          case measure => simp [intOf]; omega
    · have hd : decide ((L : Int) < (H : Int)) = false := decide_eq_false (by omega)
      have hd2 : decide ((L : Int) ≥ (H : Int)) = true := decide_eq_true (by omega)
      go_wp2_with fail
      go_ret
      refine ⟨.inr ⟨fun i hi e => ?_, rfl⟩, ⟨_, rfl⟩⟩
      by_cases h : i < L
      · have := hlo i h; omega
      · have := hhi i (by omega) hi; omega
end Go.Proofs.Ytjccaojlldkmpaa.Mem
