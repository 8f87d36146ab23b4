/- Texts that are put are got again, one and all: the walk of the law RtsTextBack. -/
import Derived.Test.YtdhfnfoimbijmaaKn5
namespace Go.Proofs.Ytdhfnfoimbijmaa.Mem
open Go.RowKit Go.Shelf Go.Proofs.YtdhfnfoimbijmaaW.PrintWords Go.Proofs.YtdhfnfoimbijmaaW.PrintLast Go.Proofs.YtdhfnfoimbijmaaW.PrintMore
open Num (bts word)
set_option linter.unusedSimpArgs false
set_option linter.unusedVariables false
/-- The texts' objects. -/
def tos (ls : List ByteArray) (k : Nat) : List O := (ls.take k).map textO
def used (ls : List ByteArray) (k : Nat) : Nat := (flat (tos ls k)).length
theorem tos_succ (ls : List ByteArray) (k : Nat) (h : k < ls.length) : tos ls (k + 1) = tos ls k ++ [textO ls[k]] := by
  unfold tos
  rw [List.take_succ_eq_append_getElem h, List.map_append]
  rfl
theorem tos_len (ls : List ByteArray) (k : Nat) (h : k ≤ ls.length) : (tos ls k).length = k := by simp [tos]; omega
theorem used_succ (ls : List ByteArray) (k : Nat) (h : k < ls.length) : used ls (k + 1) = used ls k + (nw ls[k] + 2) := by
  unfold used
  rw [tos_succ ls k h, flat_append, List.length_append, flat_one, row_length]
  simp [textO]
theorem used_zero (ls : List ByteArray) : used ls 0 = 0 := rfl
theorem tos_get (ls : List ByteArray) (k i : Nat) (hk : k ≤ ls.length) (hi : i < k) : (tos ls k)[i]'(by rw [tos_len ls k hk]; exact hi) = textO (ls[i]'(by omega)) := by
  simp [tos]
theorem tos_pos (ls : List ByteArray) (k i : Nat) (hk : k ≤ ls.length) (hi : i ≤ k) : pos (tos ls k) i = used ls i := by
  unfold pos used tos
  rw [← List.map_take, List.take_take, Nat.min_eq_left hi]
/-- The words that are put so far. -/
def wds (ls : List ByteArray) (k : Nat) : List Int := (List.range k).map fun t => 2 * (1 + (used ls t : Int))
theorem wds_succ (ls : List ByteArray) (k : Nat) : wds ls (k + 1) = wds ls k ++ [2 * (1 + (used ls k : Int))] := by simp [wds, List.range_succ]
theorem wds_len (ls : List ByteArray) (k : Nat) : (wds ls k).length = k := by simp [wds]
theorem wds_get (ls : List ByteArray) (k t : Nat) (h : t < k) : rdOf 0 (wds ls k) (t : Int) = 2 * (1 + (used ls t : Int)) := by simp [rdOf, wds, List.getD, h]
theorem used_mono (ls : List ByteArray) (i k : Nat) (h : i ≤ k) (hk : k ≤ ls.length) : used ls i ≤ used ls k := by
  obtain ⟨d, rfl⟩ : ∃ d, k = i + d := ⟨k - i, by omega⟩
  clear h
  induction d with
  | zero => exact Nat.le_refl _
  | succ d ih =>
    have h1 := ih (by omega)
    have h2 := used_succ ls (i + d) (by omega)
    rw [show i + (d + 1) = i + d + 1 from rfl, h2]
    omega
def stB (ls : List ByteArray) (n : Int) (k : Nat) : St := ⟨n, 0, tos ls k, [], .map []⟩
theorem keepB {b : Nat} {W W' : World} {v : Value} {xs : List Int} {T : Nat → Prop} (h : (Kd.int .u64).R 37 W b (fun _ => True) v xs) (fr : Fr T W W') (hn : ∀ k, v.ownBlock = some k → ¬ T k) : (Kd.int .u64).R 37 W' b (fun _ => True) v xs :=
  Kd.R_mono (Kd.R_step (Kd.R_tight rfl h) (fun k hk hl => fr.same k hl (hn k hk.symm))) (fun _ _ => trivial)
theorem stB_f (ls : List ByteArray) (n : Int) (k : Nat) : (stB ls n k).f = 1 := by simp [St.f, stB]
theorem back_put {S : Nat → Prop} {W : World} {g : Nat} {ls : List ByteArray} {n : Int} {j : Nat} (M : IsMem S W g (stB ls n j)) (hj : j < ls.length) (s : ByteArray) (hs : ls[j] = s) (h1 : s.size ≤ 1000) (hroom : ((used ls j : Nat) : Int) + nw s + 2 ≤ n) :
    Calls Try.prog 27 #[.pointer (some ⟨g, 0, none⟩), .string s] W fun e w' => e = .returned (.tuple #[.int .u64 (2 * (1 + (used ls j : Int))), .int .i64 0]) ∧ IsMem (fun k => S k ∨ W.heap.size ≤ k) w' g (stB ls n (j + 1)) ∧ Fr S W w' := by
  have h := put_text M s (by omega) (by show ((used ls j : Nat) : Int) + (1 + nw s : Nat) + 1 ≤ n; omega)
  rw [stB_f] at h
  refine h.mono ?_
  rintro e w' ⟨rfl, h2, h3⟩
  refine ⟨rfl, ?_, h3⟩
  have e : stB ls n (j + 1) = { stB ls n j with os := (stB ls n j).os ++ [textO s] } := by
    unfold stB
    rw [tos_succ ls j hj, hs]
  rw [e]
  exact h2
theorem stB_get (ls : List ByteArray) (n : Int) (k t : Nat) (h : t < (stB ls n k).os.length) (hl : t < ls.length) : (stB ls n k).os[t] = textO ls[t] := by
  simp [stB, tos]
theorem back_get {S : Nat → Prop} {W : World} {g : Nat} {ls : List ByteArray} {n : Int} {k t : Nat} (M : IsMem S W g (stB ls n k)) (hk : k ≤ ls.length) (ht : t < k) (s : ByteArray) (hs : ls[t]'(by omega) = s) :
    Calls Try.prog 34 #[.pointer (some ⟨g, 0, none⟩), .int .u64 (2 * (1 + (used ls t : Int)))] W fun e w' => e = .returned (.tuple #[.string s, .int .i64 0]) ∧ Below W.heap.size W w' := by
  refine get_text M t (by show t < (tos ls k).length; rw [tos_len ls k hk]; exact ht) s ?_ _ ?_
  · rw [stB_get ls n k t _ (by omega), hs]
  · rw [stB_f]
    show 1 + (used ls t : Int) = 1 + ((pos (tos ls k) t : Nat) : Int)
    rw [tos_pos ls k t hk (by omega)]
set_option maxHeartbeats 4000000 in
set_option maxRecDepth 100000 in
theorem back_in (w : World) (A : Option Addr) (c : Nat) (ls : List ByteArray) (hC : Kd.C Kd.string w A ls.length ls) (hc : ls.length ≤ c) (hln : ls.length ≤ 9223372036854775807) :
    Calls Try.prog 6 #[.slice A ls.length c] w fun e w' => e = .returned (.bool true) ∧ Below w.heap.size w w' := by
  go_enter Try.func6, Try.ntmps6
  go_wp2_with fail
  go_loopw [3, 4] (fun n i wr => ∃ k : Nat, k ≤ ls.length ∧ k ≤ 50 ∧ i = .int .i64 (k : Int) ∧ n = .int .i64 (64 + (used ls k : Int)) ∧ used ls k ≤ 127 * k ∧ (∀ j (h : j < ls.length), j < k → (ls[j]).size ≤ 1000) ∧ w = wr) (fun _ i _ => ls.length - (intOf i).toNat)
  case atStart => exact ⟨0, Nat.zero_le _, Nat.zero_le _, rfl, by rw [used_zero]; rfl, by rw [used_zero]; exact Nat.le_refl _, fun j _ h => absurd h (Nat.not_lt_zero j), rfl⟩
  case round =>
    obtain ⟨k, hk1, hk2, rfl, rfl, hu, hall, rfl⟩ := hrel
    by_cases hlt : k < ls.length
    · have d1 : decide ((k : Int) < (ls.length : Int)) = true := decide_eq_true (by omega)
      by_cases h50 : k < 50
      · have d2 : decide ((k : Int) < 50) = true := decide_eq_true (by omega)
        have d3 : decide (0 ≤ (k : Int)) = true := decide_eq_true (by omega)
        obtain ⟨ad, rfl, hx⟩ := Kd.at_string hC (k : Int) (by omega) (by omega)
        rw [Int.toNat_natCast] at hx
        have hrd : rdOf ByteArray.empty ls (k : Int) = ls[k] := by simp [rdOf, List.getD, hlt]
        rw [hrd] at hx
        have hus := used_succ ls k hlt
        obtain ⟨s, hs⟩ : ∃ s, ls[k] = s := ⟨_, rfl⟩
        rw [hs] at hx hus
        by_cases h1000 : 1000 < s.size
        · have d4 : decide ((s.size : Int) > 1000) = true := decide_eq_true (by omega)
          clear hus hall hrd
          go_wp2_with fail
          (with_reducible refine Calls.mono (known5 _) ?_)
          rintro e w1 ⟨rfl, hb1⟩
          go_wp2_with fail
          go_ret
          exact ⟨rfl, hb1⟩
        · have d4 : decide ((s.size : Int) > 1000) = false := decide_eq_false (by omega)
          have hq : ((s.size : Int) + 7) / 8 = (nw s : Int) := by unfold nw; omega
          have hn : nw s ≤ 125 := by unfold nw; omega
          have HU := Num.hid hus
          have HA := Num.hid hall
          have HS := Num.hid hs
          clear hus hall hrd hs
          go_wp2_with fail
          have hus := HU.out
          exact ⟨⟨k + 1, by omega, by omega, by simp, by rw [hus]; congr 1; omega, by rw [hus]; omega, fun j h hj => by
            by_cases e : j = k
            · subst e; rw [HS.out]; omega
            · exact HA.out j h (by omega), trivial⟩, by simp [intOf]; omega⟩
      · have d2 : decide ((k : Int) < 50) = false := decide_eq_false (by omega)
        go_wp2_with fail
        (with_reducible refine Calls.mono (one_new (64 + (used ls k : Int)) w (by omega)) ?_)
        rintro e w1 ⟨g, rfl, hB1, M1⟩
        go_wp2_with fail
        go_loopw [7, 8] (fun v i wq => ∃ j : Nat, j ≤ k ∧ i = .int .i64 (j : Int) ∧ (∃ S, IsMem S wq g (stB ls (64 + (used ls k : Int)) j) ∧ (∀ b, v.ownBlock = some b → ¬ S b) ∧ (∀ b, S b → w.heap.size ≤ b)) ∧ (Kd.int .u64).R 37 wq w.heap.size (fun _ => True) v (wds ls j) ∧ Below w.heap.size w wq) (fun _ i _ => k - (intOf i).toNat)
        case atStart => exact ⟨0, Nat.zero_le _, rfl, ⟨_, M1, fun b hb => by simp [Value.ownBlock] at hb, fun b hb => hb⟩, Kd.R_nil _ _ _ _ _, hB1⟩
        case round =>
          clear M1 hB1
          obtain ⟨j, hj, rfl, ⟨S, M, hsep, hSb⟩, hW, hB⟩ := hrel
          obtain ⟨Aw, cw, rfl⟩ := Kd.R_slice hW
          rw [wds_len ls j] at hW hsep ⊢
          by_cases hjk : j < k
          · have e1 : decide ((j : Int) < (ls.length : Int)) = true := decide_eq_true (by omega)
            have e2 : decide ((j : Int) < 50) = true := decide_eq_true (by omega)
            have e3 : decide (0 ≤ (j : Int)) = true := decide_eq_true (by omega)
            obtain ⟨ad, rfl, hx⟩ := Kd.at_string (Kd.C_below hC hB) (j : Int) (by omega) (by omega)
            rw [Int.toNat_natCast] at hx
            have hjl : j < ls.length := by omega
            have hrd : rdOf ByteArray.empty ls (j : Int) = ls[j] := by simp [rdOf, List.getD, hjl]
            rw [hrd] at hx
            have hus := used_succ ls j hjl
            have hmn := used_mono ls (j + 1) k (by omega) hk1
            have h1000 := hall j hjl hjk
            obtain ⟨s, hs⟩ : ∃ s, ls[j] = s := ⟨_, rfl⟩
            rw [hs] at hx hus h1000
            have hP := back_put M hjl s hs h1000 (by omega)
            clear hus hmn hrd hs
            go_wp2_with fail
            (with_reducible refine Calls.mono hP ?_)
            rintro e w2 ⟨rfl, M2, fr2⟩
            have hW2 := keepB hW fr2 hsep
            have hB2 : Below w.heap.size w w2 := ⟨fr2.low.os.trans hB.os, fr2.low.tape.trans hB.tape, fr2.low.output.trans hB.output, Nat.le_trans hB.size fr2.low.size, fun k hk => (fr2.same k (Nat.lt_of_lt_of_le hk hB.size) (fun h => by have := hSb k h; omega)).trans (hB.block k hk)⟩
            clear hP
            go_wp2_with ((with_reducible refine gate_builtin (b := .append) (xs := #[.tmp 73, .tmp 75]) rfl ?_); at_builtin; refine Kd.R_append (Kd.int .u64) (w0 := w2) w.heap.size rfl (.tmp 73) (.tmp 75) 43 37 (.int .u64 0) 8 rfl Try.underlying43 info22 rfl (by decide) (by omega) (.slice Aw j cw) (wds ls j) (2 * (1 + (used ls j : Int))) [.int .u64 (2 * (1 + (used ls j : Int)))] (fun _ => True) (fun _ => False) rfl rfl rfl (fun _ hk => hk.elim) (fun _ _ => trivial) hW2 (Below.refl _ _) hB2.size (by rw [wds_len]; omega) ?_; intro v4 w4 ho4 hbel4 hg4 hat4)
            have hlt2 : ∀ b, (Value.slice Aw j cw).ownBlock = some b → b < wr.heap.size := fun b hb => Kd.R_lt hW b hb
            have M4 := (M2.tight).keep (w' := w4) (T := fun k => (Value.slice Aw j cw).ownBlock = some k) (Fr.of_grown hg4 (fun k hk => hk)) (fun k hk e => by
              have h1 := hsep k e
              have h2 := hlt2 k e
              rcases hk.1 with h | h
              · exact h1 h
              · omega)
            refine ⟨⟨j + 1, by omega, by simp, ⟨_, M4, ?_, ?_⟩, by rw [wds_succ]; exact ho4, hB2.trans hbel4⟩, by simp [intOf]; omega⟩
            · intro b hb hk
              rcases hat4 with h | ⟨b', h, hbb⟩
              · rw [h] at hb
                have h1 := hsep b hb
                have h2 := hlt2 b hb
                rcases hk.1 with h | h
                · exact h1 h
                · omega
              · rw [h] at hb
                cases hb
                have := hk.2
                omega
            · intro b hb
              rcases hb.1 with h | h
              · exact hSb b h
              · exact Nat.le_trans hB.size h
          · obtain rfl : j = k := by omega
            go_wp2_with fail
            generalize wr = w9 at *
            go_loopw [11] (fun i wz => ∃ t : Nat, t ≤ j ∧ i = .int .i64 (t : Int) ∧ Below w9.heap.size w9 wz) (fun i _ => j - (intOf i).toNat)
            case atStart => exact ⟨0, Nat.zero_le _, rfl, Below.refl _ _⟩
            case round =>
              obtain ⟨t, ht, rfl, hz⟩ := hrel
              have hBz := hB.trans (hz.mono hB.size)
              by_cases htk : t < j
              · have f1 : decide ((t : Int) < (j : Int)) = true := decide_eq_true (by omega)
                have f0 : decide (0 ≤ (t : Int)) = true := decide_eq_true (by omega)
                have f2 : decide ((t : Int) < (ls.length : Int)) = true := decide_eq_true (by omega)
                obtain ⟨gw, cw', ew, -, hgw, -⟩ := Kd.R_form hW (by rw [wds_len]; omega)
                injection ew with ew1 ew2 ew3
                subst ew1
                clear ew2 ew3
                have hcw := (Kd.R_celln (0 : Int) (Kd.R_below hW hz) (t : Int) (by omega) (by omega)).1
                rw [wds_get ls j t htk, Int.toNat_natCast] at hcw
                obtain ⟨ad, rfl, hx⟩ := Kd.at_string (Kd.C_below hC hBz) (t : Int) (by omega) (by omega)
                rw [Int.toNat_natCast] at hx
                have htl : t < ls.length := by omega
                have hrd : rdOf ByteArray.empty ls (t : Int) = ls[t] := by simp [rdOf, List.getD, htl]
                rw [hrd] at hx
                obtain ⟨s, hs⟩ : ∃ s, ls[t] = s := ⟨_, rfl⟩
                rw [hs] at hx
                have hG := back_get (M.below hz) hk1 htk s hs
                clear hrd hs
                go_wp2_with fail
                (with_reducible refine Calls.mono hG ?_)
                rintro e w5 ⟨rfl, hb5⟩
                have hx5 := (hb5.cell (World.block_lt_of_cell? _ _ hx)).trans hx
                clear hG
                go_wp2_with fail
                exact ⟨⟨t + 1, by omega, by simp, hz.trans (hb5.mono hz.size)⟩, by simp [intOf]; omega⟩
              · obtain rfl : t = j := by omega
                have f1 : decide ((t : Int) < (t : Int)) = false := decide_eq_false (by omega)
                go_wp2_with fail
                (with_reducible refine Calls.mono (known5 _) ?_)
                rintro e w6 ⟨rfl, hb6⟩
                go_wp2_with fail
                go_ret
                exact ⟨rfl, hBz.trans (hb6.mono hBz.size)⟩
    · have d1 : decide ((k : Int) < (ls.length : Int)) = false := decide_eq_false (by omega)
      go_wp2_with fail
      (with_reducible refine Calls.mono (one_new (64 + (used ls k : Int)) w (by omega)) ?_)
      rintro e w1 ⟨g, rfl, hB1, M1⟩
      go_wp2_with fail
      go_loopw [7, 8] (fun v i wq => ∃ j : Nat, j ≤ k ∧ i = .int .i64 (j : Int) ∧ (∃ S, IsMem S wq g (stB ls (64 + (used ls k : Int)) j) ∧ (∀ b, v.ownBlock = some b → ¬ S b) ∧ (∀ b, S b → w.heap.size ≤ b)) ∧ (Kd.int .u64).R 37 wq w.heap.size (fun _ => True) v (wds ls j) ∧ Below w.heap.size w wq) (fun _ i _ => k - (intOf i).toNat)
      case atStart => exact ⟨0, Nat.zero_le _, rfl, ⟨_, M1, fun b hb => by simp [Value.ownBlock] at hb, fun b hb => hb⟩, Kd.R_nil _ _ _ _ _, hB1⟩
      case round =>
        clear M1 hB1
        obtain ⟨j, hj, rfl, ⟨S, M, hsep, hSb⟩, hW, hB⟩ := hrel
        obtain ⟨Aw, cw, rfl⟩ := Kd.R_slice hW
        rw [wds_len ls j] at hW hsep ⊢
        by_cases hjk : j < k
        · have e1 : decide ((j : Int) < (ls.length : Int)) = true := decide_eq_true (by omega)
          have e2 : decide ((j : Int) < 50) = true := decide_eq_true (by omega)
          have e3 : decide (0 ≤ (j : Int)) = true := decide_eq_true (by omega)
          obtain ⟨ad, rfl, hx⟩ := Kd.at_string (Kd.C_below hC hB) (j : Int) (by omega) (by omega)
          rw [Int.toNat_natCast] at hx
          have hjl : j < ls.length := by omega
          have hrd : rdOf ByteArray.empty ls (j : Int) = ls[j] := by simp [rdOf, List.getD, hjl]
          rw [hrd] at hx
          have hus := used_succ ls j hjl
          have hmn := used_mono ls (j + 1) k (by omega) hk1
          have h1000 := hall j hjl hjk
          obtain ⟨s, hs⟩ : ∃ s, ls[j] = s := ⟨_, rfl⟩
          rw [hs] at hx hus h1000
          have hP := back_put M hjl s hs h1000 (by omega)
          clear hus hmn hrd hs
          go_wp2_with fail
          (with_reducible refine Calls.mono hP ?_)
          rintro e w2 ⟨rfl, M2, fr2⟩
          have hW2 := keepB hW fr2 hsep
          have hB2 : Below w.heap.size w w2 := ⟨fr2.low.os.trans hB.os, fr2.low.tape.trans hB.tape, fr2.low.output.trans hB.output, Nat.le_trans hB.size fr2.low.size, fun k hk => (fr2.same k (Nat.lt_of_lt_of_le hk hB.size) (fun h => by have := hSb k h; omega)).trans (hB.block k hk)⟩
          clear hP
          go_wp2_with ((with_reducible refine gate_builtin (b := .append) (xs := #[.tmp 73, .tmp 75]) rfl ?_); at_builtin; refine Kd.R_append (Kd.int .u64) (w0 := w2) w.heap.size rfl (.tmp 73) (.tmp 75) 43 37 (.int .u64 0) 8 rfl Try.underlying43 info22 rfl (by decide) (by omega) (.slice Aw j cw) (wds ls j) (2 * (1 + (used ls j : Int))) [.int .u64 (2 * (1 + (used ls j : Int)))] (fun _ => True) (fun _ => False) rfl rfl rfl (fun _ hk => hk.elim) (fun _ _ => trivial) hW2 (Below.refl _ _) hB2.size (by rw [wds_len]; omega) ?_; intro v4 w4 ho4 hbel4 hg4 hat4)
          have hlt2 : ∀ b, (Value.slice Aw j cw).ownBlock = some b → b < wr.heap.size := fun b hb => Kd.R_lt hW b hb
          have M4 := (M2.tight).keep (w' := w4) (T := fun k => (Value.slice Aw j cw).ownBlock = some k) (Fr.of_grown hg4 (fun k hk => hk)) (fun k hk e => by
            have h1 := hsep k e
            have h2 := hlt2 k e
            rcases hk.1 with h | h
            · exact h1 h
            · omega)
          refine ⟨⟨j + 1, by omega, by simp, ⟨_, M4, ?_, ?_⟩, by rw [wds_succ]; exact ho4, hB2.trans hbel4⟩, by simp [intOf]; omega⟩
          · intro b hb hk
            rcases hat4 with h | ⟨b', h, hbb⟩
            · rw [h] at hb
              have h1 := hsep b hb
              have h2 := hlt2 b hb
              rcases hk.1 with h | h
              · exact h1 h
              · omega
            · rw [h] at hb
              cases hb
              have := hk.2
              omega
          · intro b hb
            rcases hb.1 with h | h
            · exact hSb b h
            · exact Nat.le_trans hB.size h
        · obtain rfl : j = k := by omega
          go_wp2_with fail
          generalize wr = w9 at *
          go_loopw [11] (fun i wz => ∃ t : Nat, t ≤ j ∧ i = .int .i64 (t : Int) ∧ Below w9.heap.size w9 wz) (fun i _ => j - (intOf i).toNat)
          case atStart => exact ⟨0, Nat.zero_le _, rfl, Below.refl _ _⟩
          case round =>
            obtain ⟨t, ht, rfl, hz⟩ := hrel
            have hBz := hB.trans (hz.mono hB.size)
            by_cases htk : t < j
            · have f1 : decide ((t : Int) < (j : Int)) = true := decide_eq_true (by omega)
              have f0 : decide (0 ≤ (t : Int)) = true := decide_eq_true (by omega)
              have f2 : decide ((t : Int) < (ls.length : Int)) = true := decide_eq_true (by omega)
              obtain ⟨gw, cw', ew, -, hgw, -⟩ := Kd.R_form hW (by rw [wds_len]; omega)
              injection ew with ew1 ew2 ew3
              subst ew1
              clear ew2 ew3
              have hcw := (Kd.R_celln (0 : Int) (Kd.R_below hW hz) (t : Int) (by omega) (by omega)).1
              rw [wds_get ls j t htk, Int.toNat_natCast] at hcw
              obtain ⟨ad, rfl, hx⟩ := Kd.at_string (Kd.C_below hC hBz) (t : Int) (by omega) (by omega)
              rw [Int.toNat_natCast] at hx
              have htl : t < ls.length := by omega
              have hrd : rdOf ByteArray.empty ls (t : Int) = ls[t] := by simp [rdOf, List.getD, htl]
              rw [hrd] at hx
              obtain ⟨s, hs⟩ : ∃ s, ls[t] = s := ⟨_, rfl⟩
              rw [hs] at hx
              have hG := back_get (M.below hz) hk1 htk s hs
              clear hrd hs
              go_wp2_with fail
              (with_reducible refine Calls.mono hG ?_)
              rintro e w5 ⟨rfl, hb5⟩
              have hx5 := (hb5.cell (World.block_lt_of_cell? _ _ hx)).trans hx
              clear hG
              go_wp2_with fail
              exact ⟨⟨t + 1, by omega, by simp, hz.trans (hb5.mono hz.size)⟩, by simp [intOf]; omega⟩
            · obtain rfl : t = j := by omega
              have f1 : decide ((t : Int) < (t : Int)) = false := decide_eq_false (by omega)
              go_wp2_with fail
              (with_reducible refine Calls.mono (known5 _) ?_)
              rintro e w6 ⟨rfl, hb6⟩
              go_wp2_with fail
              go_ret
              exact ⟨rfl, hBz.trans (hb6.mono hBz.size)⟩
end Go.Proofs.Ytdhfnfoimbijmaa.Mem
