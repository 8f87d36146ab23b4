/- What Load, Look, Store, Words and Half answer. -/
import Derived.Test.YtjccaojlldkmpaaMem4
namespace Go.Proofs.Ytjccaojlldkmpaa.Mem
open Go.RowKit Go.Proofs.YtjccaojlldkmpaaW.PrintWords Go.Proofs.YtjccaojlldkmpaaW.PrintMore
open Hf (rightB hdr headOf partsOf)
set_option linter.unusedSimpArgs false
set_option linter.unusedVariables false
variable {w : World} {g : Nat} {size half f f2 : Int} {ow oh mv vw vh : Value} {os : List O}
/-- A half of the memory as it lies: the block's cells, the two rows, the objects. -/
structure Half (w : World) (g : Nat) (size half f f2 : Int) (ow oh mv vw vh : Value) (os : List O) : Prop where
  blk : w.heap[g]? = some (.cells (cellsOf size half f vw vh f2 ow oh mv) 96 (0, 0))
  ws : Ws w vw (flat os)
  hs : Hs w vh (heads f os)
  ok : ∀ o ∈ os, O.ok o
  hf : 0 ≤ f ∧ f ≤ 200000
  hl : (flat os).length ≤ 65536
/-- What an object's view is, or that there is none. -/
theorem Half.at (H : Half w g size half f f2 ow oh mv vw vh os) (a : Int) (ha : -9223372036854775808 ≤ a ∧ a ≤ 9223372036854775807) (w1 : World) (hd : Drawn0 w w1) :
    Calls Try.prog 67 #[.pointer (some ⟨g, 2, none⟩), .int .i64 a] w1 fun e w' => ((∃ (i gw c : Nat) (h : i < os.length), a = f + (pos os i : Int) ∧ vw = .slice (some ⟨gw, 0, none⟩) (flat os).length c ∧ (flat os).length ≤ c ∧ e = .returned (.slice (some ⟨gw, pos os i, none⟩) (os[i].fs.length + 1) (c - pos os i))) ∨
      (NoHead f os a ∧ e = .returned (.slice none 0 0))) ∧ Drawn0 w w' := by
  obtain ⟨m, rfl⟩ := hd
  obtain ⟨aw, cw, rfl⟩ := Kd.R_slice H.ws
  obtain ⟨ah, ch, rfl⟩ := Kd.R_slice H.hs
  have hb := blk_drewN H.blk m
  refine (at_any (w.drewN m) g 2 f os 0 _ cw aw ah _ ch a H.ok H.hf H.hl ha ((blk_cell hb 2).trans rfl) ((blk_cell hb 3).trans rfl) ((blk_cell hb 4).trans rfl) (Kd.R_drewN H.ws m) (Kd.R_drewN H.hs m)).mono ?_
  rintro e w' ⟨h, ⟨m2, rfl⟩⟩
  refine ⟨?_, ⟨m + m2, by simp⟩⟩
  rcases h with ⟨i, gw, hi, h1, rfl, h3⟩ | h
  · exact .inl ⟨i, gw, cw, hi, h1, rfl, (Kd.R_reads' H.ws).2.1, h3⟩
  · exact .inr h
/-- A field's word. -/
theorem Half.field (H : Half w g size half f f2 ow oh mv vw vh os) {i gw c : Nat} (hi : i < os.length) (hv : vw = .slice (some ⟨gw, 0, none⟩) (flat os).length c) (j : Nat) (hj : j ≤ os[i].fs.length) :
    w.cell? ⟨gw, pos os i + j, none⟩ = some (.int .u64 (os[i].row.getD j 0)) ∧ w.frozen? ⟨gw, pos os i + j, none⟩ = false := by
  subst hv
  have hp := pos_head os i hi
  have := Kd.R_celln (0 : Int) H.ws ((pos os i + j : Nat) : Int) (by omega) (by omega)
  rw [flat_word os i j hi hj, Int.toNat_natCast] at this
  exact this
/-- There is no such field. -/
def NoField (f : Int) (os : List O) (a x : Int) : Prop := NoHead f os a ∨ ∃ (i : Nat) (h : i < os.length), a = f + (pos os i : Int) ∧ (x < 0 ∨ (os[i].fs.length : Int) ≤ x)
theorem NoHead.not {f : Int} {os : List O} {a : Int} (h : NoHead f os a) {i : Nat} (hi : i < os.length) : a ≠ f + (pos os i : Int) := fun e => h i hi e.symm
theorem pos_inj {os : List O} {i j : Nat} (hi : i < os.length) (hj : j < os.length) (h : pos os i = pos os j) : i = j := by
  by_cases h1 : i < j
  · have := pos_lt os i j h1 (by omega); omega
  · by_cases h2 : j < i
    · have := pos_lt os j i h2 (by omega); omega
    · omega
/-- The view of an object that is there. -/
theorem Half.at_yes (H : Half w g size half f f2 ow oh mv vw vh os) (i : Nat) (hi : i < os.length) (w1 : World) (hd : Drawn0 w w1) :
    Calls Try.prog 67 #[.pointer (some ⟨g, 2, none⟩), .int .i64 (f + (pos os i : Int))] w1 fun e w' => (∃ (gw c : Nat), vw = .slice (some ⟨gw, 0, none⟩) (flat os).length c ∧ (flat os).length ≤ c ∧ e = .returned (.slice (some ⟨gw, pos os i, none⟩) (os[i].fs.length + 1) (c - pos os i))) ∧ Drawn0 w w' := by
  have hp := pos_head os i hi
  have hfl := H.hl
  have hf := H.hf
  refine (H.at (f + (pos os i : Int)) (by omega) w1 hd).mono ?_
  rintro e w' ⟨h, h2⟩
  refine ⟨?_, h2⟩
  rcases h with ⟨i', gw, c, hi', he, hv, hcap, h3⟩ | ⟨hn, -⟩
  · obtain rfl : i = i' := pos_inj hi hi' (by omega)
    exact ⟨gw, c, hv, hcap, h3⟩
  · exact absurd rfl (hn.not hi)
/-- No view of what is not there. -/
theorem Half.at_no (H : Half w g size half f f2 ow oh mv vw vh os) (a : Int) (ha : -9223372036854775808 ≤ a ∧ a ≤ 9223372036854775807) (hn : NoHead f os a) (w1 : World) (hd : Drawn0 w w1) :
    Calls Try.prog 67 #[.pointer (some ⟨g, 2, none⟩), .int .i64 a] w1 fun e w' => e = .returned (.slice none 0 0) ∧ Drawn0 w w' := by
  refine (H.at a ha w1 hd).mono ?_
  rintro e w' ⟨h, h2⟩
  refine ⟨?_, h2⟩
  rcases h with ⟨i', gw, c, hi', he, hv, hcap, h3⟩ | ⟨-, h⟩
  · exact absurd he (hn.not hi')
  · exact h
set_option maxHeartbeats 4000000 in
set_option maxRecDepth 100000 in
theorem load_yes (H : Half w g size half f f2 ow oh mv vw vh os) (i j : Nat) (hi : i < os.length) (hj : j < os[i].fs.length) :
    Calls Try.prog 56 #[.pointer (some ⟨g, 0, none⟩), .int .i64 (f + (pos os i : Int)), .int .i64 j] w fun e w' => e = .returned (.tuple #[.int .u64 (os[i].fs.getD j 0), .int .i64 0]) ∧ Drawn0 w w' := by
  have hp := pos_head os i hi
  have hfl := H.hl
  have hf := H.hf
  obtain ⟨L, hL⟩ : ∃ L, os[i].fs.length = L := ⟨_, rfl⟩
  have d1 : decide ((j : Int) < 0) = false := decide_eq_false (by omega)
  have d2 : decide ((j : Int) ≥ (L : Int)) = false := decide_eq_false (by omega)
  have d3 : decide (0 ≤ (j : Int) + 1) = true := decide_eq_true (by omega)
  have d4 : decide ((j : Int) + 1 < ((L + 1 : Nat) : Int)) = true := decide_eq_true (by omega)
  have d5 : (j : Int) < (L : Int) := by omega
  have d6 : (L : Int) ≤ 65536 := by omega
  go_enter Try.func56, Try.ntmps56
  go_wp2_with (first
    | (go_at_call 67; refine (H.at_yes i hi _ ⟨0, rfl⟩).mono ?_; rintro e w5 ⟨⟨gw, c, hv, hcap, rfl⟩, ⟨m5, rfl⟩⟩
       obtain ⟨hc, -⟩ := H.field hi hv (j + 1) (by omega)
       rw [show os[i].row.getD (j + 1) 0 = os[i].fs.getD j 0 from rfl] at hc
       rw [hL]))
  go_ret2
  exact ⟨rfl, ⟨_, rfl⟩⟩
set_option maxHeartbeats 4000000 in
set_option maxRecDepth 100000 in
theorem load_no (H : Half w g size half f f2 ow oh mv vw vh os) (a x : Int) (ha : -9223372036854775808 ≤ a ∧ a ≤ 9223372036854775807) (hx : -9223372036854775808 ≤ x ∧ x ≤ 9223372036854775807) (hn : NoField f os a x) :
    Calls Try.prog 56 #[.pointer (some ⟨g, 0, none⟩), .int .i64 a, .int .i64 x] w fun e w' => e = .returned (.tuple #[.int .u64 0, .int .i64 20]) ∧ Drawn0 w w' := by
  rcases hn with hn | ⟨i, hi, rfl, hx2⟩
  · by_cases h0 : x < 0
    · have d1 : decide (x < 0) = true := decide_eq_true h0
      go_enter Try.func56, Try.ntmps56
      go_wp2_with (first
        | (go_at_call 67; refine (H.at_no a ha hn _ ⟨0, rfl⟩).mono ?_; rintro e w5 ⟨rfl, ⟨m5, rfl⟩⟩))
      go_ret2
      exact ⟨rfl, ⟨_, rfl⟩⟩
    · have d1 : decide (x < 0) = false := decide_eq_false h0
      have d2 : decide (x ≥ -1) = true := decide_eq_true (by omega)
      go_enter Try.func56, Try.ntmps56
      go_wp2_with (first
        | (go_at_call 67; refine (H.at_no a ha hn _ ⟨0, rfl⟩).mono ?_; rintro e w5 ⟨rfl, ⟨m5, rfl⟩⟩))
      go_ret2
      exact ⟨rfl, ⟨_, rfl⟩⟩
  · have hp := pos_head os i hi
    have hfl := H.hl
    obtain ⟨L, hL⟩ : ∃ L, os[i].fs.length = L := ⟨_, rfl⟩
    rw [hL] at hx2 hp
    have d6 : (L : Int) ≤ 65536 := by omega
    by_cases h0 : x < 0
    · have d1 : decide (x < 0) = true := decide_eq_true h0
      go_enter Try.func56, Try.ntmps56
      go_wp2_with (first
        | (go_at_call 67; refine (H.at_yes i hi _ ⟨0, rfl⟩).mono ?_; rintro e w5 ⟨⟨gw, c, hv, hcap, rfl⟩, ⟨m5, rfl⟩⟩; rw [hL]))
      go_ret2
      exact ⟨rfl, ⟨_, rfl⟩⟩
    · have d1 : decide (x < 0) = false := decide_eq_false h0
      have d2 : decide (x ≥ (L : Int)) = true := decide_eq_true (by omega)
      go_enter Try.func56, Try.ntmps56
      go_wp2_with (first
        | (go_at_call 67; refine (H.at_yes i hi _ ⟨0, rfl⟩).mono ?_; rintro e w5 ⟨⟨gw, c, hv, hcap, rfl⟩, ⟨m5, rfl⟩⟩; rw [hL]))
      go_ret2
      exact ⟨rfl, ⟨_, rfl⟩⟩
end Go.Proofs.Ytjccaojlldkmpaa.Mem
