/- What must come of the fixed calls of layer 2. -/
import Derived.Test.YtjccaojlldkmpaaMem5
namespace Go.Proofs.Ytjccaojlldkmpaa.Mem
open Go.RowKit Go.Proofs.YtjccaojlldkmpaaW.PrintWords Go.Proofs.YtjccaojlldkmpaaW.PrintMore
open Hf (rightB hdr headOf partsOf)
set_option linter.unusedSimpArgs false
set_option linter.unusedVariables false
variable {w : World} {g : Nat} {size half f f2 : Int} {ow oh mv vw vh : Value} {os : List O}
theorem made_half {w' : World} {n : Int} {g mb : Nat} (hn : 64 ≤ n ∧ n ≤ 65536) (h : w'.heap[g]? = some (.cells (cellsOf n 0 1 (.slice none 0 0) (.slice none 0 0) (n + 1) (.slice none 0 0) (.slice none 0 0) (.map (some mb))) 96 (0, 0))) :
    Half w' g n 0 1 (n + 1) (.slice none 0 0) (.slice none 0 0) (.map (some mb)) (.slice none 0 0) (.slice none 0 0) [] :=
  ⟨h, Kd.R_nil _ _ _ _ _, Kd.R_nil _ _ _ _ _, fun o ho => by simp at ho, by omega, by simp [flat]⟩
/-- Behind Alloc the half lies with one object more. -/
theorem alloc_half {w w' : World} {g : Nat} {size half f f2 : Int} {ow oh mv vw vh : Value} {os : List O} {e : Ending} {k : Int} {n q : Nat} (H : Half w g size half f f2 ow oh mv vw vh os) (hr : rightB k n q = true) (hfl : (flat os).length + n + 1 ≤ 65536)
    (h : AllocPost w g size half f f2 ow oh mv vw vh (flat os) (heads f os) (newRow k n q) e w') :
    e = .returned (.tuple #[.int .i64 (f + ((flat os).length : Int)), .int .i64 0]) ∧ ∃ vw' vh', Half w' g size half f f2 ow oh mv vw' vh' (os ++ [⟨k, q, List.replicate q 1 ++ List.replicate (n - q) 0⟩]) ∧ At w vw vw' ∧ At w vh vh' ∧ Fr (fun k => k = g ∨ vw.ownBlock = some k ∨ vh.ownBlock = some k) w w' := by
  obtain ⟨e1, ⟨-, vw', vh', h1, h2, h3, h4, h5, h6⟩, he⟩ := h
  obtain ⟨p1, p2, p3, p4, p5, p6⟩ := Hf.right_parts hr
  have hlen : (List.replicate q (1 : Int) ++ List.replicate (n - q) 0).length = n := by simp; omega
  have hrow : (⟨k, q, List.replicate q 1 ++ List.replicate (n - q) 0⟩ : O).row = newRow k n q := by
    unfold O.row newRow
    simp only [hlen]
  have hflat : flat (os ++ [⟨k, q, List.replicate q 1 ++ List.replicate (n - q) 0⟩]) = flat os ++ newRow k n q := by rw [flat_append, flat_one, hrow]
  refine ⟨he, vw', vh', ⟨h1, by rw [hflat]; exact h2, by rw [heads_append]; exact h3, fun o ho => ?_, H.hf, ?_⟩, h4, h5, h6⟩
  · rw [List.mem_append, List.mem_singleton] at ho
    rcases ho with ho | rfl
    · exact H.ok o ho
    · refine ⟨by simp only [hlen]; exact hr, fun x hx => ?_⟩
      simp only [List.mem_append, List.mem_replicate] at hx
      omega
  · rw [hflat, List.length_append, newRow_length _ _ _ (by omega)]; omega
theorem Half.alloc (H : Half w g size half f f2 ow oh mv vw vh os) (k : Int) (n q : Nat) (hr : rightB k n q = true) (hsz : 0 ≤ size ∧ size ≤ 65536) (hfree : ((flat os).length : Int) + n + 1 ≤ size) :
    Calls Try.prog 36 #[.pointer (some ⟨g, 0, none⟩), .int .i64 k, .int .i64 n, .int .i64 q] w fun e w' =>
      e = .returned (.tuple #[.int .i64 (f + ((flat os).length : Int)), .int .i64 0]) ∧ ∃ vw' vh', Half w' g size half f f2 ow oh mv vw' vh' (os ++ [⟨k, q, List.replicate q 1 ++ List.replicate (n - q) 0⟩]) ∧ At w vw vw' ∧ At w vh vh' ∧ Fr (fun k => k = g ∨ vw.ownBlock = some k ∨ vh.ownBlock = some k) w w' := by
  obtain ⟨aw, cw, rfl⟩ := Kd.R_slice H.ws
  have hll := len_le os
  have hfl := H.hl
  refine (alloc_in w g size half f f2 ow oh mv vh aw _ cw (flat os) (heads f os) k n q hsz H.hf H.hl (by rw [heads_length]; omega) hr (by omega) H.blk H.ws H.hs).mono ?_
  intro e w' h
  exact alloc_half H hr (by omega) h
theorem Half.next (H : Half w g size half f f2 ow oh mv vw vh os) (m : Nat) :
    Calls Try.prog 60 #[.pointer (some ⟨g, 0, none⟩)] (w.drewN m) fun e w' => e = .returned (.int .i64 (f + ((flat os).length : Int))) ∧ Drawn0 w w' := by
  obtain ⟨aw, cw, rfl⟩ := Kd.R_slice H.ws
  refine (next_any (w.drewN m) g size half f f2 vh ow oh mv aw _ cw H.hl H.hf (blk_drewN H.blk m)).mono ?_
  rintro e w' ⟨h, ⟨m2, rfl⟩⟩
  exact ⟨h, ⟨m + m2, by simp⟩⟩
theorem Half.free (H : Half w g size half f f2 ow oh mv vw vh os) (hsz : 0 ≤ size ∧ size ≤ 65536) (m : Nat) :
    Calls Try.prog 32 #[.pointer (some ⟨g, 0, none⟩)] (w.drewN m) fun e w' => e = .returned (.int .i64 (size - ((flat os).length : Int))) ∧ Drawn0 w w' := by
  obtain ⟨aw, cw, rfl⟩ := Kd.R_slice H.ws
  refine (free_any (w.drewN m) g size half f f2 vh ow oh mv aw _ cw H.hl hsz (blk_drewN H.blk m)).mono ?_
  rintro e w' ⟨h, ⟨m2, rfl⟩⟩
  exact ⟨h, ⟨m + m2, by simp⟩⟩
end Go.Proofs.Ytjccaojlldkmpaa.Mem
