/- isa.Read: the instructions of a text, line by line; where each line's reading is known. -/
import Derived.Test.YtebjdjdlpmplpaaLnF
import Derived.Test.YtebjdjdlpmplpaaTx0
namespace Go.Proofs.Ytebjdjdlpmplpaa.Ln
open Go.RowKit Go.Shelf Go.Proofs.Ytebjdjdlpmplpaa.Tx Go.Proofs.YtebjdjdlpmplpaaW.PrintWords Go.Proofs.YtebjdjdlpmplpaaW.PrintLast
set_option linter.unusedVariables false
set_option linter.unusedSimpArgs false
attribute [local go_sem] Oper.semAt_some
/-- A line, or nothing where it would be longer than the text. -/
def cut (s ln : ByteArray) : ByteArray := if ln.size ≤ s.size then ln else ⟨#[]⟩
theorem cut_size (s ln : ByteArray) : (cut s ln).size ≤ s.size := by
  unfold cut
  split
  · assumption
  · exact Nat.zero_le _
theorem cut_line (s : ByteArray) (a b : Nat) : cut s (s.extract a b) = s.extract a b := by
  unfold cut
  rw [if_pos]
  rw [ByteArray.size_extract]
  omega
theorem cut_lines (s : ByteArray) (i : Nat) : ∀ ln ∈ (scan s i).2, cut s ln = ln := by
  induction i with
  | zero => intro ln h; simp [scan] at h
  | succ i ih =>
    rw [scan_succ]
    by_cases h : In s (scan s i).1 i
    · rw [step_in h]; exact ih
    · rw [step_out h]
      intro ln hl
      simp only [List.mem_append, List.mem_singleton] at hl
      rcases hl with hl | rfl
      · exact ih ln hl
      · exact cut_line _ _ _
set_option maxRecDepth 100000 in
set_option maxHeartbeats 2000000 in
theorem lines1_cut (F : Fence) (n : Nat) (h44 : F.fn 44) (hro : F.round = none) (hn : 1 ≤ n) (l Bs : Nat) (s : ByteArray) (hs : s.size ≤ 140737488351232) (J Jx : List (Nat × ByteArray) → World → Prop)
    (hY : ∀ pre x W, J pre W → pre.length < s.size + 1 → YieldAt F (n - 1) Try.prog l #[.int .i64 (x.1 : Int), .string (cut s x.2)] W fun e W' =>
      (e = .returned (.bool true) ∧ J (pre ++ [x]) W' ∧ KB Bs W W') ∨ (e = .returned (.bool false) ∧ Jx (pre ++ [x]) W'))
    (W : World) (hBs : W.cell? ⟨Bs, 0, none⟩ = some (.string s)) (h0 : J [] W) :
    CallsIn F n Try.prog 44 #[.func (.yield l) #[] #[], .pointer (some ⟨Bs, 0, none⟩)] W fun e W' => (∃ v, e = .returned v) ∧
      ((∃ ys, ys = prs (linesOf s) ∧ J ys W') ∨ (∃ pre, Told s pre ∧ Jx pre W')) := by
  refine callsIn_of_wp Try.func44 rfl h44 ?_ hro
  simp only [Try.ntmps44, List.size_toArray, List.length_cons, List.length_nil, Nat.reduceAdd, Nat.reduceSub, Array.replicate_succ, Array.replicate_zero, List.push_toArray, List.append_toArray, List.nil_append, List.cons_append]
  gi_wp2
  gi_loopw [3, 4, 5] (fun fr nn i wr => ∃ k : Nat, k ≤ s.size + 1 ∧ fr = .int .i64 ((scan s k).1 : Int) ∧ nn = .int .i64 ((scan s k).2.length : Int) ∧ i = .int .i64 (k : Int) ∧ J (prs (scan s k).2) wr ∧ KB Bs W wr)
    (fun _ _ i _ => s.size + 1 - (intOf i).toNat)
  case atStart => exact ⟨0, Nat.zero_le _, rfl, rfl, rfl, h0, rfl⟩
  case round =>
    obtain ⟨k, hk, rfl, rfl, rfl, hJs, hnx⟩ := hrel
    have hcx : wr.cell? ⟨Bs, 0, none⟩ = some (.string s) := hnx.cell hBs
    have hle := scan_le s k
    obtain ⟨fr, hfr⟩ : ∃ fr, (scan s k).1 = fr := ⟨_, rfl⟩
    obtain ⟨ls, hls⟩ : ∃ ls, (scan s k).2 = ls := ⟨_, rfl⟩
    have hsc : scan s k = (fr, ls) := by rw [← hfr, ← hls]
    have hsu : scan s (k + 1) = step s k (fr, ls) := by rw [scan_succ, hsc]
    rw [hfr, hls] at hle
    rw [hls] at hJs
    rw [hfr, hls]
    clear hfr hls
    by_cases hlt : k ≤ s.size
    · obtain ⟨fn, tmps, assign, body, hy, hR⟩ := hY _ (ls.length, s.extract fr k) wr hJs (by rw [prs_length]; omega)
      simp only [cut_line] at hy
      by_cases hk1 : k < s.size
      · by_cases hb : ((s[k]'hk1).toNat : Int) = 10
        · have hst : scan s (k + 1) = (k + 1, ls ++ [s.extract fr k]) := by
            rw [hsu, step_out]
            rintro (⟨h, h'⟩ | ⟨h, -⟩)
            · exact h' hb
            · omega
          clear hsu
          gi_wp2_with fail
          refine hR.mono ?_
          rintro e W3 (⟨rfl, hJ3, hk3⟩ | ⟨rfl, hJx3⟩)
          · gi_wp2
            exact ⟨⟨k + 1, by omega, by rw [hst]; simp, by rw [hst]; simp, by simp, by rw [hst, prs_snoc]; exact hJ3, hnx.trans hk3⟩, by simp [intOf] <;> omega⟩
          · gi_wp2
            refine bodyPost_ret (results_none rfl _ _ _) rfl ?_
            exact ⟨⟨_, rfl⟩, .inr ⟨_, ⟨k + 1, by omega, by rw [hst, prs_snoc]⟩, hJx3⟩⟩
        · have hst : scan s (k + 1) = (fr, ls) := by
            rw [hsu, step_in]
            exact .inl ⟨hk1, hb⟩
          clear hsu
          gi_wp2_with fail
          exact ⟨⟨k + 1, by omega, by rw [hst], by rw [hst], by simp, by rw [hst]; exact hJs, hnx⟩, by simp [intOf]; omega⟩
      · obtain rfl : k = s.size := by omega
        by_cases hf : fr = s.size
        · subst hf
          have hst : scan s (s.size + 1) = (s.size, ls) := by
            rw [hsu, step_in]
            exact .inr ⟨rfl, rfl⟩
          clear hsu
          gi_wp2_with fail
          exact ⟨⟨s.size + 1, by omega, by rw [hst], by rw [hst], by simp, by rw [hst]; exact hJs, hnx⟩, by simp [intOf]⟩
        · have hst : scan s (s.size + 1) = (s.size + 1, ls ++ [s.extract fr s.size]) := by
            rw [hsu, step_out]
            rintro (⟨h, -⟩ | ⟨-, h⟩)
            · omega
            · exact hf h
          clear hsu
          gi_wp2_with fail
          refine hR.mono ?_
          rintro e W3 (⟨rfl, hJ3, hk3⟩ | ⟨rfl, hJx3⟩)
          · gi_wp2
            exact ⟨⟨s.size + 1, by omega, by rw [hst]; simp, by rw [hst]; simp, by simp, by rw [hst, prs_snoc]; exact hJ3, hnx.trans hk3⟩, by simp [intOf] <;> omega⟩
          · gi_wp2
            refine bodyPost_ret (results_none rfl _ _ _) rfl ?_
            exact ⟨⟨_, rfl⟩, .inr ⟨_, ⟨s.size + 1, by omega, by rw [hst, prs_snoc]⟩, hJx3⟩⟩
    · obtain rfl : k = s.size + 1 := by omega
      gi_wp2
      go_end0
      exact ⟨⟨_, rfl⟩, .inl ⟨_, rfl, by unfold linesOf; rw [hsc]; exact hJs⟩⟩

theorem lines_cut (F : Fence) (n : Nat) (h44 : F.fn 44) (hro : F.round = none) (hn : 1 ≤ n) (Bs : Nat) (s : ByteArray) (hs : s.size ≤ 140737488351232) (w : World) (hBs : Bs < w.heap.size)
    (hc : w.cell? ⟨Bs, 0, none⟩ = some (.string s)) :
    SeqStopsK F n Try.prog 44 #[.pointer (some ⟨Bs, 0, none⟩)] (fun x : Nat × ByteArray => #[Value.int .i64 (x.1 : Int), Value.string (cut s x.2)]) (KB Bs) (fun ys => ys = prs (linesOf s))
      (fun pre => Told s pre) (s.size + 1) w := fun l J Jx W hW _ _ hY h0 =>
  lines1_cut F n h44 hro hn l Bs s hs J Jx hY W ((hW.cell (p := ⟨Bs, 0, none⟩) hBs).trans hc) h0
end Go.Proofs.Ytebjdjdlpmplpaa.Ln
