/- rts.fields: an object's fields in a new row. -/
import Derived.Test.YtdhfnfoimbijmaaPut
namespace Go.Proofs.Ytdhfnfoimbijmaa.Mem
open Go.RowKit Go.Shelf Go.Proofs.YtdhfnfoimbijmaaW.PrintWords Go.Proofs.YtdhfnfoimbijmaaW.PrintLast Go.Proofs.YtdhfnfoimbijmaaW.PrintMore
open Hf (rightB hdr headOf partsOf)
set_option linter.unusedSimpArgs false
set_option linter.unusedVariables false
variable {S : Nat → Prop} {w w' : World} {g mb n B : Nat} {st : St} {vw vh ow oh : Value}
/-- The first fields, and zeros. -/
def upTo (fs : List Int) (k : Nat) : List Int := fs.take k ++ List.replicate (fs.length - k) 0
theorem upTo_zero (fs : List Int) : upTo fs 0 = List.replicate fs.length 0 := by simp [upTo]
theorem upTo_all (fs : List Int) : upTo fs fs.length = fs := by simp [upTo]
theorem upTo_len (fs : List Int) (k : Nat) (h : k ≤ fs.length) : (upTo fs k).length = fs.length := by simp [upTo]; omega
theorem upTo_set (fs : List Int) (k : Nat) (h : k < fs.length) : (upTo fs k).set k (fs.getD k 0) = upTo fs (k + 1) := by
  unfold upTo
  rw [List.set_append, if_neg (by simp; omega)]
  have e : k - (fs.take k).length = 0 := by simp; omega
  rw [e, show fs.length - k = (fs.length - (k + 1)) + 1 from by omega, List.replicate_succ, List.set_cons_zero, List.take_succ_eq_append_getElem h, List.append_assoc]
  have e2 : fs.getD k 0 = fs[k] := by simp [List.getD, h]
  rw [e2]
  rfl
set_option maxHeartbeats 4000000 in
set_option maxRecDepth 100000 in
theorem fields_any (M : IsMem S w g st) (i : Nat) (hi : i < st.os.length) (h0 : 0 < st.os[i].fs.length) :
    Calls Try.prog 54 #[.pointer (some ⟨g, 0, none⟩), .int .i64 (st.f + (pos st.os i : Int)), .int .i64 (st.os[i].fs.length : Int)] w fun e w' =>
      ∃ v, e = .returned v ∧ (Kd.int .u64).R 37 w' w.heap.size (fun _ => True) v st.os[i].fs ∧ Below w.heap.size w w' := by
  have hL2 : st.os[i].fs.length ≤ 65536 := by
    obtain ⟨vw, vh, ow, oh, mb, n, L'⟩ := M
    have h1 := L'.H.hl
    have h2 := pos_head st.os i hi
    omega
  obtain ⟨fs, hfs⟩ : ∃ fs, fs = st.os[i].fs := ⟨_, rfl⟩
  have hld : ∀ (j : Nat), j < st.os[i].fs.length → ∀ W, Below w.heap.size w W → Calls Try.prog 31 #[.pointer (some ⟨g, 0, none⟩), .int .i64 (st.f + (pos st.os i : Int)), .int .i64 (j : Int)] W fun e w' => e = .returned (.tuple #[.int .u64 (fs.getD j 0), .int .i64 0]) ∧ Drawn0 W w' := by
    intro j hj W hb
    have MW := (M.tight).keep (w' := W) (T := fun k => w.heap.size ≤ k) ⟨hb.mono (Nat.zero_le _), fun k hk _ => hb.block k hk⟩ (fun k h h2 => by omega)
    have h := MW.load i j hi hj
    rw [← hfs] at h
    exact h
  rw [← hfs] at hL2 h0 hld ⊢
  clear hfs
  go_enter Try.func54, Try.ntmps54
  go_wp2_with ((with_reducible refine gate_dst (N := 10) rfl ?_); refine Kd.R_make (Kd.int .u64) (w0 := w) w.heap.size 37 rfl (N := 10) rfl 43 (.tmp 9) (.tmp 9) rfl (fs.length : Int) rfl rfl Try.underlying43 (.int .u64 0) 8 info22 rfl (by decide) (by omega) 0 (ok := fun _ => True) (okp := fun _ => True) rfl (fun _ _ => trivial) trivial (by omega) (by omega) (Below.refl _ _) (Nat.le_refl _) ?_; intro v3 w3 ho3 hB3 hg3 hnew3; rw [Int.toNat_natCast] at ho3; obtain ⟨g3, c3, rfl, hgb, hlt3, -⟩ := Kd.R_form ho3 (by simp; omega); rw [List.length_replicate] at ho3 hnew3 ⊢)
  go_loopw [13] (fun i wr => ∃ j : Nat, j ≤ fs.length ∧ i = .int .i64 (j : Int) ∧ (Kd.int .u64).R 37 wr w.heap.size (fun _ => True) (.slice (some ⟨g3, 0, none⟩) fs.length c3) (upTo fs j) ∧ Below w.heap.size w wr) (fun i _ => ((fs.length : Int) - intOf i).toNat)
  case atStart => exact ⟨0, Nat.zero_le _, rfl, by rw [upTo_zero]; exact ho3, hB3⟩
  case round =>
    clear ho3 hg3 hnew3 hB3
    obtain ⟨j, hj, rfl, hR, hB⟩ := hrel
    by_cases hjq : j < fs.length
    · have hd : decide ((j : Int) < (fs.length : Int)) = true := decide_eq_true (by omega)
      have hi0 : decide (0 ≤ (j : Int)) = true := decide_eq_true (by omega)
      have hl := hld j hjq wr hB
      have hup := upTo_set fs j hjq
      obtain ⟨x, hx⟩ : ∃ x, fs.getD j 0 = x := ⟨_, rfl⟩
      rw [hx] at hl hup
      have hcj := Kd.R_celln (0 : Int) hR (j : Int) (by omega) (by omega)
      rw [Int.toNat_natCast] at hcj
      obtain ⟨hc1, hc2⟩ := hcj
      have HU := Num.hid hup
      clear hld hup hx
      go_wp2_with fail
      (with_reducible refine Calls.mono hl ?_)
      rintro e w5 ⟨rfl, ⟨m5, rfl⟩⟩
      clear hl
      go_wp2_with fail
      have hpj := Kd.R_putg (Kd.R_drewN hR m5) (j : Int) x
      rw [Int.toNat_natCast, HU.out] at hpj
      exact ⟨⟨j + 1, by omega, by simp, hpj.1, (hB.trans (pw_below_drewN (Below.refl _ _) m5)).setCell (p := ⟨g3, j, none⟩) hgb _⟩, by simp [intOf]; omega⟩
    · obtain rfl : j = fs.length := by omega
      have hd : decide ((fs.length : Int) < (fs.length : Int)) = false := decide_eq_false (by omega)
      go_wp2_with fail
      go_ret
      rw [upTo_all] at hR
      exact ⟨_, rfl, hR, hB⟩
end Go.Proofs.Ytdhfnfoimbijmaa.Mem
