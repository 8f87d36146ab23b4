/- What Alloc does: an object behind the others, or a refusal. -/
import Derived.Test.YtjccaojlldkmpaaMem2
import Derived.Test.YtjccaojlldkmpaaHdF
import Derived.Test.YtjccaojlldkmpaaWZeros
import Derived.LoopTactic
namespace Go.Proofs.Ytjccaojlldkmpaa.Mem
open Go.RowKit Go.Proofs.YtjccaojlldkmpaaW.PrintWords Go.Proofs.YtjccaojlldkmpaaW.PrintMore
open Hf (rightB hdr headOf partsOf)
set_option linter.unusedSimpArgs false
set_option linter.unusedVariables false
/-- A new object's words. -/
def newRow (k : Int) (n q : Nat) : List Int := hdr k n q :: (List.replicate q 1 ++ List.replicate (n - q) 0)
theorem newRow_length (k : Int) (n q : Nat) (h : q ≤ n) : (newRow k n q).length = n + 1 := by simp [newRow]; omega
def midRow (k : Int) (n q j : Nat) : List Int := hdr k n q :: (List.replicate j 1 ++ List.replicate (n - j) 0)
theorem midRow_set (k : Int) (n q j : Nat) (h : j < n) : (midRow k n q j).set (j + 1) 1 = midRow k n q (j + 1) := by
  unfold midRow
  rw [List.set_cons_succ]
  congr 1
  obtain ⟨m, hm⟩ : ∃ m, n - j = m + 1 := ⟨n - j - 1, by omega⟩
  rw [hm, show n - (j + 1) = m by omega, List.replicate_succ, List.set_append_right _ _ (by simp), List.replicate_succ' (n := j)]
  simp
theorem midRow_length (k : Int) (n q j : Nat) (h : j ≤ n) : (midRow k n q j).length = n + 1 := by simp [midRow]; omega
theorem midRow_done (k : Int) (n q : Nat) : midRow k n q q = newRow k n q := rfl
theorem midRow_start (k : Int) (n q : Nat) : (List.replicate (n + 1) (0 : Int)).set 0 (hdr k n q) = midRow k n q 0 := by
  unfold midRow
  rw [List.replicate_succ, List.set_cons_zero]; simp
theorem int0 : Hd.num_Int.f 0 = some 1 := Hf.int_f 0 (by omega)
/-- Behind 'Alloc'. -/
def AllocPost (w : World) (g : Nat) (size half f f2 : Int) (ow oh mv vw vh : Value) (ws hs xs : List Int) (e : Ending) (w' : World) : Prop :=
  ∃ e1, PutPost w g size half f f2 ow oh mv vw vh ws hs xs e1 w' ∧ e = .returned (.tuple #[.int .i64 (f + ws.length), .int .i64 0])
set_option maxHeartbeats 4000000 in
set_option maxRecDepth 100000 in
theorem alloc_in (w : World) (g : Nat) (size half f f2 : Int) (ow oh mv vh : Value) (a : Option Addr) (len cap : Nat) (ws hs : List Int) (k : Int) (n q : Nat)
    (hsz : 0 ≤ size ∧ size ≤ 65536) (hf : 0 ≤ f ∧ f ≤ 200000) (hl : len ≤ 65536) (hh : hs.length ≤ 65536) (hr : rightB k n q = true) (hfree : ((n : Int) + 1) ≤ size - len)
    (hb : w.heap[g]? = some (.cells (cellsOf size half f (.slice a len cap) vh f2 ow oh mv) 96 (0, 0)))
    (HW : Ws w (.slice a len cap) ws) (HH : Hs w vh hs) :
    Calls Try.prog 36 #[.pointer (some ⟨g, 0, none⟩), .int .i64 k, .int .i64 n, .int .i64 q] w fun e w' => AllocPost w g size half f f2 ow oh mv (.slice a len cap) vh ws hs (newRow k n q) e w' := by
  obtain ⟨p1, p2, p3, p4, p5, p6⟩ := Hf.right_parts hr
  have hhead : headOf k n q = (hdr k n q, 0) := by unfold headOf; rw [if_pos hr]
  have hH := Hf.header_f 0 k n q
  rw [hhead] at hH
  have hfr : decide ((n : Int) + 1 > size - len) = false := decide_eq_false (by omega)
  go_enter Try.func36, Try.ntmps36
  go_wp2_with (first
    | (go_at_call 70; (with_reducible refine (Hd.mem_Header.calls 2 k n q _ _ _ hH).mono ?_); rintro e w1 ⟨rfl, ⟨m1, rfl⟩⟩)
    | (go_at_call 32; (with_reducible refine (free_any _ g size half f f2 vh ow oh mv a len cap hl hsz (blk_drewN hb _)).mono ?_); rintro e w1 ⟨rfl, ⟨m2, rfl⟩⟩)
    | ((with_reducible refine gate_dst (N := 33) rfl ?_); refine Kd.R_make (Kd.int .u64) (w0 := w) 0 56 rfl (N := 33) rfl 32 (.tmp 32) (.tmp 32) rfl ((n : Int) + 1) rfl rfl Try.underlying32 (.int .u64 0) 8 info22 rfl (by decide) (by omega) 0 (ok := fun _ => True) (okp := fun _ => True) rfl (fun _ _ => trivial) trivial (by omega) (by omega) (pw_below_drewN (Below.refl _ _) _) (Nat.zero_le _) ?_; intro v3 w3 ho3 hB3 hg3 hnew3
       rw [show ((n : Int) + 1).toNat = n + 1 by omega] at ho3
       obtain ⟨g3, c3, rfl, -, hlt3, -⟩ := Kd.R_form ho3 (by simp)
       rw [List.length_replicate] at ho3 hnew3 ⊢
       have hc0 := Kd.R_celln (0 : Int) ho3 0 (by omega) (by omega)
       have hp0 := Kd.R_putg ho3 0 (hdr k n q)
       rw [show (0 : Int).toNat = 0 from rfl, midRow_start] at hp0
       rw [show (0 : Int).toNat = 0 from rfl] at hc0
       obtain ⟨hc01, hc02⟩ := hc0
       have hgn : w.heap.size ≤ g3 := by
         obtain ⟨b, hb1, hb2⟩ := hnew3
         have e : g3 = b := by simpa [Value.ownBlock] using hb1
         rw [e]; exact hb2
       have fr3 : Fr (fun k => w.heap.size ≤ k) w (w3.setCell ⟨g3, 0, none⟩ (.int .u64 (hdr k n q))) := ((Fr.of_drawn (x := w) ⟨m1 + m2, rfl⟩).trans (Fr.of_grown hg3 (fun k hk => by cases hk))).trans (Fr.of_set w3 ⟨g3, 0, none⟩ _ hgn)
       clear hB3))
  have hz1 : 0 ≤ (q : Int) := by omega
  go_loopw [13] (fun i wr => ∃ j : Nat, j ≤ q ∧ i = .int .i64 ((j : Int) + 1) ∧ Ws wr (.slice (some ⟨g3, 0, none⟩) (n + 1) c3) (midRow k n q j) ∧ Fr (fun k => w.heap.size ≤ k) w wr) (fun i _ => ((q : Int) + 1 - intOf i).toNat)
  case atStart => exact ⟨0, Nat.zero_le _, rfl, hp0.1, fr3⟩
  case round =>
    clear hp0 fr3 ho3 hc01 hc02 hg3 hnew3
    obtain ⟨j, hj, rfl, hR, hfr⟩ := hrel
    by_cases hjq : j < q
    · have hd : decide ((j : Int) + 1 ≤ (q : Int)) = true := decide_eq_true (by omega)
      have hi0 : decide (0 ≤ (j : Int) + 1) = true := decide_eq_true (by omega)
      have hi1 : decide ((j : Int) + 1 < ((n + 1 : Nat) : Int)) = true := decide_eq_true (by omega)
      have hi2 : (j : Int) < (n : Int) := by omega
      obtain ⟨hcj, hzj⟩ := Kd.R_celln (0 : Int) hR ((j : Int) + 1) (by omega) (by omega)
      have hpj := Kd.R_putg hR ((j : Int) + 1) 1
      rw [show ((j : Int) + 1).toNat = j + 1 by omega, midRow_set k n q j (by omega)] at hpj
      rw [show ((j : Int) + 1).toNat = j + 1 by omega] at hcj hzj
      go_wp2_with (first | (go_at_call 71; (with_reducible refine (Hd.num_Int.calls 0 1 _ int0).mono ?_); rintro e w5 ⟨rfl, ⟨m5, rfl⟩⟩))
      go_roundw
      case rel => exact ⟨j + 1, by omega, by congr 1, Kd.R_drewN hpj.1 _, (hfr.trans (Fr.of_set wr ⟨g3, j + 1, none⟩ _ hgn)).trans (Fr.of_drawn ⟨m5, rfl⟩)⟩
      case measure => simp [intOf]; omega
    · obtain rfl : j = q := by omega
      have hd : decide ((j : Int) + 1 ≤ (j : Int)) = false := decide_eq_false (by omega)
      have hgl := blk_lt hb
      have hb' : wr.heap[g]? = some (.cells (cellsOf size half f (.slice a len cap) vh f2 ow oh mv) 96 (0, 0)) := (hfr.same g hgl (by omega)).trans hb
      have HW' : Ws wr (.slice a len cap) ws := Kd.R_step HW (fun k _ hk => hfr.same k hk (by omega))
      have HH' : Hs wr vh hs := Kd.R_step HH (fun k _ hk => hfr.same k hk (by omega))
      have hlen : ws.length = len := by have := (Kd.R_reads' HW).1; omega
      have HA := (Kd.R_reads' hR).2.2
      rw [midRow_length k n j j (by omega), midRow_done] at HA
      go_wp2_with (first | (go_at_call 72; refine (put_any _ g size half f f2 ow oh mv vh a len cap _ (n + 1) c3 ws hs (newRow k n j) hf hl (by omega) (by omega) hb' HW' HH' HA).mono ?_; rintro e w6 ⟨rfl, vw', vh', q1, q2, q3, q4, q5, q6⟩))
      go_ret2
      refine ⟨_, ⟨rfl, vw', vh', q1, q2, q3, ?_, ?_, hfr.low.trans q6.low, fun i hi hs => (q6.same i (Nat.lt_of_lt_of_le hi hfr.low.size) hs).trans (hfr.same i hi (by omega))⟩, by rw [hlen]; rfl⟩
      · exact q4.imp id (fun ⟨b, h1, h2⟩ => ⟨b, h1, Nat.le_trans hfr.low.size h2⟩)
      · exact q5.imp id (fun ⟨b, h1, h2⟩ => ⟨b, h1, Nat.le_trans hfr.low.size h2⟩)
set_option maxHeartbeats 4000000 in
set_option maxRecDepth 100000 in
theorem alloc_head (w : World) (g : Nat) (k n q : Int) (hr : rightB k n q = false) :
    Calls Try.prog 36 #[.pointer (some ⟨g, 0, none⟩), .int .i64 k, .int .i64 n, .int .i64 q] w fun e w' => e = .returned (.tuple #[.int .i64 0, .int .i64 22]) ∧ Drawn0 w w' := by
  have hhead : headOf k n q = (0, 22) := by unfold headOf; rw [if_neg (by rw [hr]; decide)]
  have hH := Hf.header_f 0 k n q
  rw [hhead] at hH
  go_enter Try.func36, Try.ntmps36
  go_wp2_with (first
    | (go_at_call 70; (with_reducible refine (Hd.mem_Header.calls 2 k n q _ _ _ hH).mono ?_); rintro e w1 ⟨rfl, ⟨m1, rfl⟩⟩))
  go_ret2
  exact ⟨rfl, ⟨_, rfl⟩⟩
set_option maxHeartbeats 4000000 in
set_option maxRecDepth 100000 in
theorem alloc_full (w : World) (g : Nat) (size half f f2 : Int) (ow oh mv vh : Value) (a : Option Addr) (len cap : Nat) (k : Int) (n q : Int)
    (hsz : 0 ≤ size ∧ size ≤ 65536) (hl : len ≤ 65536) (hr : rightB k n q = true) (hfree : size - len < n + 1)
    (hb : w.heap[g]? = some (.cells (cellsOf size half f (.slice a len cap) vh f2 ow oh mv) 96 (0, 0))) :
    Calls Try.prog 36 #[.pointer (some ⟨g, 0, none⟩), .int .i64 k, .int .i64 n, .int .i64 q] w fun e w' => e = .returned (.tuple #[.int .i64 0, .int .i64 21]) ∧ Drawn0 w w' := by
  obtain ⟨p1, p2, p3, p4, p5, p6⟩ := Hf.right_parts hr
  have hhead : headOf k n q = (hdr k n q, 0) := by unfold headOf; rw [if_pos hr]
  have hH := Hf.header_f 0 k n q
  rw [hhead] at hH
  have hfr : decide (n + 1 > size - len) = true := decide_eq_true (by omega)
  go_enter Try.func36, Try.ntmps36
  go_wp2_with (first
    | (go_at_call 70; (with_reducible refine (Hd.mem_Header.calls 2 k n q _ _ _ hH).mono ?_); rintro e w1 ⟨rfl, ⟨m1, rfl⟩⟩)
    | (go_at_call 32; (with_reducible refine (free_any _ g size half f f2 vh ow oh mv a len cap hl hsz (blk_drewN hb _)).mono ?_); rintro e w1 ⟨rfl, ⟨m2, rfl⟩⟩))
  go_ret2
  exact ⟨rfl, ⟨_, rfl⟩⟩
theorem alloc_nil (w : World) (k n q : Int) :
    Calls Try.prog 36 #[.pointer none, .int .i64 k, .int .i64 n, .int .i64 q] w fun e w' => e = .returned (.tuple #[.int .i64 0, .int .i64 2]) ∧ Drawn0 w w' := by
  go_enter Try.func36, Try.ntmps36
  go_wp2_with fail
  go_ret2
  exact ⟨rfl, ⟨0, rfl⟩⟩
end Go.Proofs.Ytjccaojlldkmpaa.Mem
