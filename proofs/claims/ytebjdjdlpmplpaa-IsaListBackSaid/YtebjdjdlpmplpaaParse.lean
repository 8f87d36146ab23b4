/- What num.Parse answers, at every text within the machine's bounds. -/
import Derived.WalkKit
import Derived.WalkMore
import Derived.Deep.LoopGhost
import Derived.WalkLawsBesides
import Derived.Test.YtebjdjdlpmplpaaNum
namespace Go.Proofs.Ytebjdjdlpmplpaa.Num
open Go.RowKit
def fitZ (n : Int) : Prop := -4611686018427387904 ≤ n ∧ n ≤ 4611686018427387903
/-- No integer's text. -/
def NoText (s : ByteArray) : Prop := ∀ n, fitZ n → ((strOfNums (textOf n)).toList == s.toList) = false
def i64r (n : Int) : Prop := -9223372036854775808 ≤ n ∧ n ≤ 9223372036854775807
theorem wrap64_i64 (n : Int) : i64r (wrap64 n) := by unfold wrap64 i64r; omega
theorem fit_yes (n : Int) (w : World) (h : fitZ n) : Calls Try.prog 51 #[.int .i64 n] w fun e w' => e = .returned (.bool true) ∧ w = w' := by
  obtain ⟨h1, h2⟩ := h
  go_enter Try.func51, Try.ntmps51
  go_wp2
  go_ret
  exact ⟨rfl, rfl⟩
theorem fit_no (n : Int) (w : World) (h : ¬ fitZ n) : Calls Try.prog 51 #[.int .i64 n] w fun e w' => e = .returned (.bool false) ∧ w = w' := by
  have h' : n < -4611686018427387904 ∨ 4611686018427387903 < n := by unfold fitZ at h; omega
  rcases h' with h' | h'
  · go_enter Try.func51, Try.ntmps51
    go_wp2
    go_ret
    exact ⟨rfl, rfl⟩
  · have h2 : -4611686018427387904 ≤ n := by omega
    have h3 : decide (n ≤ 4611686018427387903) = false := decide_eq_false (by omega)
    go_enter Try.func51, Try.ntmps51
    go_wp2
    go_ret
    exact ⟨rfl, rfl⟩

set_option maxRecDepth 100000 in
set_option maxHeartbeats 1000000 in
theorem parse_empty (s : ByteArray) (w : World) (hp : ¬ 0 < s.size) :
    Calls Try.prog 47 #[.string s] w fun e w' => e = .returned (.tuple #[.int .i64 0, .int .i64 11]) ∧ Below w.heap.size w w' := by
  go_enter Try.func47, Try.ntmps47
  go_wp2_with fail
  go_step3
  go_wp2_with fail
  go_step3
  go_wp2_with fail
  refine wp_loop_rounds 1 ?_
  rw [rounds_succ]
  go_wp2_with fail
  all_goals (try rw [Exit.noGoto_ret])
  all_goals go_ret2
  all_goals exact ⟨rfl, Below.refl _ _⟩

set_option maxRecDepth 100000 in
set_option maxHeartbeats 1000000 in
theorem parse_minus0 (s : ByteArray) (w : World) (hs : s.size ≤ 140737488351232) (hp : 0 < s.size) (h45 : ((s[0].toNat : Int) == 45) = true) (hp2 : ¬ 0 < s.size - 1) :
    Calls Try.prog 47 #[.string s] w fun e w' => e = .returned (.tuple #[.int .i64 0, .int .i64 11]) ∧ Below w.heap.size w w' := by
  go_enter Try.func47, Try.ntmps47
  go_wp2_with fail
  go_step3
  go_wp2_with fail
  go_step3
  go_wp2_with fail
  refine wp_loop_rounds 1 ?_
  rw [rounds_succ]
  go_wp2_with fail
  all_goals (try rw [Exit.noGoto_ret])
  all_goals go_ret2
  all_goals exact ⟨rfl, Below.refl _ _⟩

set_option maxRecDepth 100000 in
set_option maxHeartbeats 1000000 in
theorem parse_minus20 (s : ByteArray) (w : World) (hs : s.size ≤ 140737488351232) (hp : 0 < s.size) (h45 : ((s[0].toNat : Int) == 45) = true) (hp2 : 0 < s.size - 1) (h20 : decide (((s.size - 1 : Nat) : Int) < 20) = false) :
    Calls Try.prog 47 #[.string s] w fun e w' => e = .returned (.tuple #[.int .i64 0, .int .i64 11]) ∧ Below w.heap.size w w' := by
  go_enter Try.func47, Try.ntmps47
  go_wp2_with fail
  go_step3
  go_wp2_with fail
  go_step3
  go_wp2_with fail
  refine wp_loop_rounds 1 ?_
  rw [rounds_succ]
  go_wp2_with fail
  all_goals (try rw [Exit.noGoto_ret])
  all_goals go_ret2
  all_goals exact ⟨rfl, Below.refl _ _⟩

set_option maxRecDepth 100000 in
set_option maxHeartbeats 1000000 in
theorem parse_plus20 (s : ByteArray) (w : World) (hp : 0 < s.size) (h45 : ((s[0].toNat : Int) == 45) = false) (h20 : decide ((s.size : Int) < 20) = false) :
    Calls Try.prog 47 #[.string s] w fun e w' => e = .returned (.tuple #[.int .i64 0, .int .i64 11]) ∧ Below w.heap.size w w' := by
  go_enter Try.func47, Try.ntmps47
  go_wp2_with fail
  go_step3
  go_wp2_with fail
  go_step3
  go_wp2_with fail
  refine wp_loop_rounds 1 ?_
  rw [rounds_succ]
  go_wp2_with fail
  all_goals (try rw [Exit.noGoto_ret])
  all_goals go_ret2
  all_goals exact ⟨rfl, Below.refl _ _⟩

set_option maxRecDepth 100000 in
set_option maxHeartbeats 2000000 in
theorem parse_no_minus (s : ByteArray) (w : World) (hs : s.size ≤ 140737488351232) (hp : 0 < s.size) (h45 : ((s[0].toNat : Int) == 45) = true) (hp2 : 0 < s.size - 1) (h20 : decide (((s.size - 1 : Nat) : Int) < 20) = true) (hno : NoText s) :
    Calls Try.prog 47 #[.string s] w fun e w' => e = .returned (.tuple #[.int .i64 0, .int .i64 11]) ∧ Below w.heap.size w w' := by
  go_enter Try.func47, Try.ntmps47
  go_wp2_with fail
  go_step3
  go_wp2_with fail
  go_step3
  go_wp2_with fail
  generalize hds : s.extract 1 s.size = ds
  go_loop [5, 6, 7] (fun v g i => ∃ (n : Int) (k : Nat), v = .int .i64 n ∧ i64r n ∧ g = .bool true ∧ i = .int .i64 k ∧ k ≤ ds.size) (fun _ _ i => ds.size - (intOf i).toNat)
  case atStart => exact ⟨0, 0, rfl, by unfold i64r; omega, rfl, rfl, Nat.zero_le _⟩
  case round =>
    obtain ⟨n, k, rfl, hn, rfl, rfl, hk⟩ := hrel
    have hdsz : ds.size = s.size - 1 := by rw [← hds]; simp
    have hdsz' : ds.size ≤ 140737488351232 := by omega
    clear hds
    by_cases hlt : k < ds.size
    · have hd : decide ((k : Int) < (ds.size : Int)) = true := decide_eq_true (by omega)
      go_wp2_with fail
      all_goals first
        | (go_round
           case rel => exact ⟨_, k + 1, rfl, wrap64_i64 _, rfl, by go_num, by omega⟩
           case measure => simp [intOf]; omega)
        | (go_ret2
           exact ⟨rfl, Below.refl _ _⟩)
    · obtain rfl : k = ds.size := by omega
      have hd : decide ((ds.size : Int) < (ds.size : Int)) = false := decide_eq_false (by omega)
      by_cases hf : fitZ (wrap64 (-n))
      · have hne := hno _ hf
        have hb : i64r (wrap64 (-n)) := by unfold fitZ at hf; unfold i64r; omega
        go_wp2_with (first | (go_at_call 51; refine (fit_yes _ _ hf).mono ?_; rintro e w' ⟨rfl, rfl⟩) | (go_at_call 49; refine (text_any _ _ hb.1 hb.2).mono ?_; rintro e w1 ⟨rfl, hB1⟩))
        (try rw [Exit.noGoto_ret])
        go_ret2
        exact ⟨rfl, hB1⟩
      · go_wp2_with (go_at_call 51; refine (fit_no _ _ hf).mono ?_; rintro e w' ⟨rfl, rfl⟩)
        (try rw [Exit.noGoto_ret])
        go_ret2
        exact ⟨rfl, Below.refl _ _⟩

set_option maxRecDepth 100000 in
set_option maxHeartbeats 2000000 in
theorem parse_no_plus (s : ByteArray) (w : World) (hs : s.size ≤ 140737488351232) (hp : 0 < s.size) (h45 : ((s[0].toNat : Int) == 45) = false) (h20 : decide ((s.size : Int) < 20) = true) (hno : NoText s) :
    Calls Try.prog 47 #[.string s] w fun e w' => e = .returned (.tuple #[.int .i64 0, .int .i64 11]) ∧ Below w.heap.size w w' := by
  go_enter Try.func47, Try.ntmps47
  go_wp2_with fail
  go_step3
  go_wp2_with fail
  go_step3
  go_wp2_with fail
  go_loop [5, 6, 7] (fun v g i => ∃ (n : Int) (k : Nat), v = .int .i64 n ∧ i64r n ∧ g = .bool true ∧ i = .int .i64 k ∧ k ≤ s.size) (fun _ _ i => s.size - (intOf i).toNat)
  case atStart => exact ⟨0, 0, rfl, by unfold i64r; omega, rfl, rfl, Nat.zero_le _⟩
  case round =>
    obtain ⟨n, k, rfl, hn, rfl, rfl, hk⟩ := hrel
    by_cases hlt : k < s.size
    · have hd : decide ((k : Int) < (s.size : Int)) = true := decide_eq_true (by omega)
      go_wp2_with fail
      all_goals first
        | (go_round
           case rel => exact ⟨_, k + 1, rfl, wrap64_i64 _, rfl, by go_num, by omega⟩
           case measure => simp [intOf]; omega)
        | (go_ret2
           exact ⟨rfl, Below.refl _ _⟩)
    · obtain rfl : k = s.size := by omega
      have hd : decide ((s.size : Int) < (s.size : Int)) = false := decide_eq_false (by omega)
      by_cases hf : fitZ (n)
      · have hne := hno _ hf
        have hb : i64r (n) := by unfold fitZ at hf; unfold i64r; omega
        go_wp2_with (first | (go_at_call 51; refine (fit_yes _ _ hf).mono ?_; rintro e w' ⟨rfl, rfl⟩) | (go_at_call 49; refine (text_any _ _ hb.1 hb.2).mono ?_; rintro e w1 ⟨rfl, hB1⟩))
        (try rw [Exit.noGoto_ret])
        go_ret2
        exact ⟨rfl, hB1⟩
      · go_wp2_with (go_at_call 51; refine (fit_no _ _ hf).mono ?_; rintro e w' ⟨rfl, rfl⟩)
        (try rw [Exit.noGoto_ret])
        go_ret2
        exact ⟨rfl, Below.refl _ _⟩

/-! ### A text that is an integer's -/
/-- The number of some digits. -/
def val (l : List Int) : Int := l.foldl (fun a c => 10 * a + (c - 48)) 0
theorem val_snoc (l : List Int) (c : Int) : val (l ++ [c]) = 10 * val l + (c - 48) := by simp [val]
def digB (l : List Int) : Prop := ∀ c ∈ l, 48 ≤ c ∧ c ≤ 57
theorem digs_spec (m : Nat) : ∀ u, u ≤ m → val (digs u) = u ∧ digB (digs u) ∧ ∀ k, k < (digs u).length → 0 ≤ val ((digs u).take k) ∧ val ((digs u).take k) ≤ (u / 10 : Nat) := by
  induction m with
  | zero =>
    intro u h
    obtain rfl : u = 0 := by omega
    have e : digs 0 = [48] := by rw [digs]; rfl
    rw [e]
    refine ⟨by decide, by intro c hc; simp at hc; omega, ?_⟩
    intro k hk
    obtain rfl : k = 0 := by simpa using hk
    decide
  | succ m ih =>
    intro u h
    rw [digs]
    split
    · rename_i h10
      refine ⟨by simp [val]; omega, by intro c hc; simp at hc; omega, ?_⟩
      intro k hk
      obtain rfl : k = 0 := by simpa using hk
      simp [val]
      omega
    · rename_i h10
      obtain ⟨h1, h2, h3⟩ := ih (u / 10) (by omega)
      refine ⟨by rw [val_snoc, h1]; omega, ?_, ?_⟩
      · intro c hc
        rcases List.mem_append.1 hc with hc | hc
        · exact h2 c hc
        · simp at hc; omega
      · intro k hk
        rw [List.length_append, List.length_singleton] at hk
        rw [List.take_append_of_le_length (by omega)]
        by_cases hkl : k = (digs (u / 10)).length
        · rw [hkl, List.take_of_length_le (Nat.le_refl _), h1]; omega
        · have := h3 k (by omega)
          omega
theorem bts_get? (s : ByteArray) (k : Nat) (h : k < s.size) : (bts s)[k]? = some ((s[k]'h).toNat : Int) := by
  rw [List.getElem?_eq_getElem (by rw [bts_length]; exact h), bts_get s k h]
theorem take_next (D : List Int) (k : Nat) (c : Int) (h : D[k]? = some c) : D.take (k + 1) = D.take k ++ [c] := by
  rw [List.take_add_one, h]; rfl

set_option maxRecDepth 100000 in
set_option maxHeartbeats 2000000 in
theorem parse_yes_minus (u : Int) (s : ByteArray) (w : World) (hu0 : 1 ≤ u) (hu : u ≤ 4611686018427387904) (hs : s.size ≤ 140737488351232) (hp : 0 < s.size) (h45 : ((s[0].toNat : Int) == 45) = true) (hp2 : 0 < s.size - 1) (h20 : decide (((s.size - 1 : Nat) : Int) < 20) = true)
    (hbd : bts (s.extract 1 s.size) = digs u.toNat) (heq : ((strOfNums (textOf (-u))).toList == s.toList) = true) :
    Calls Try.prog 47 #[.string s] w fun e w' => e = .returned (.tuple #[.int .i64 (-u), .int .i64 0]) ∧ Below w.heap.size w w' := by
  obtain ⟨s1, s2, s3⟩ := digs_spec u.toNat u.toNat (Nat.le_refl _)
  have Hbd := hid hbd
  have Hs1 := hid s1
  have Hs2 := hid s2
  have Hs3 := hid s3
  have Heq := hid heq
  clear s1 s2 s3 hbd heq
  go_enter Try.func47, Try.ntmps47
  go_wp2_with fail
  go_step3
  go_wp2_with fail
  go_step3
  go_wp2_with fail
  have hbd := Hbd.out
  clear Hbd
  generalize hds : s.extract 1 s.size = ds at hbd ⊢
  have Hbd := hid hbd
  clear hbd
  go_loop [5, 6, 7] (fun v g i => ∃ (n : Int) (k : Nat), v = .int .i64 n ∧ n = val ((digs u.toNat).take k) ∧ g = .bool true ∧ i = .int .i64 k ∧ k ≤ ds.size) (fun _ _ i => ds.size - (intOf i).toNat)
  case atStart => exact ⟨0, 0, rfl, rfl, rfl, rfl, Nat.zero_le _⟩
  case round =>
    obtain ⟨n, k, rfl, hn, rfl, rfl, hk⟩ := hrel
    have hlen : (digs u.toNat).length = ds.size := by rw [← Hbd.out, bts_length]
    have hdsz : ds.size = s.size - 1 := by rw [← hds]; simp
    clear hds
    by_cases hlt : k < ds.size
    · have hd : decide ((k : Int) < (ds.size : Int)) = true := decide_eq_true (by omega)
      have hg : (digs u.toNat)[k]? = some ((ds[k]'hlt).toNat : Int) := by rw [← Hbd.out, bts_get? ds k hlt]
      have hc := Hs2.out _ (List.mem_of_getElem? hg)
      obtain ⟨hc1, hc2⟩ := hc
      have hpre := Hs3.out k (by omega)
      rw [← hn] at hpre
      obtain ⟨hp1, hp2⟩ := hpre
      have hnext : 10 * n + (((ds[k]'hlt).toNat : Int) - 48) = val ((digs u.toNat).take (k + 1)) := by rw [take_next _ _ _ hg, val_snoc, hn]
      have Hnext := hid hnext
      have hnu : n ≤ 461168601842738790 := by omega
      have Hn := hid hn
      clear hn hnext hg hp2 hlen
      go_wp2_with fail
      go_round
      case rel => exact ⟨_, k + 1, rfl, Hnext.out, rfl, by go_num, by omega⟩
      case measure => simp [intOf]; omega
    · obtain rfl : k = ds.size := by omega
      have hd : decide ((ds.size : Int) < (ds.size : Int)) = false := decide_eq_false (by omega)
      have hnu : n = u := by rw [hn, List.take_of_length_le (by omega), Hs1.out]; omega
      subst hnu
      have hne := Heq.out
      have hf : fitZ (-n) := by unfold fitZ; omega
      clear hn hlen
      go_wp2_with (first | (go_at_call 51; refine (fit_yes _ _ hf).mono ?_; rintro e w' ⟨rfl, rfl⟩) | (go_at_call 49; refine (text_any _ _ (by omega) (by omega)).mono ?_; rintro e w1 ⟨rfl, hB1⟩))
      (try rw [Exit.noGoto_ret])
      go_ret2
      exact ⟨rfl, hB1⟩

set_option maxRecDepth 100000 in
set_option maxHeartbeats 2000000 in
theorem parse_yes_plus (u : Int) (s : ByteArray) (w : World) (hu0 : 0 ≤ u) (hu : u ≤ 4611686018427387903) (hs : s.size ≤ 140737488351232) (hp : 0 < s.size) (h45 : ((s[0].toNat : Int) == 45) = false) (h20 : decide ((s.size : Int) < 20) = true)
    (hbd : bts (s) = digs u.toNat) (heq : ((strOfNums (textOf (u))).toList == s.toList) = true) :
    Calls Try.prog 47 #[.string s] w fun e w' => e = .returned (.tuple #[.int .i64 (u), .int .i64 0]) ∧ Below w.heap.size w w' := by
  obtain ⟨s1, s2, s3⟩ := digs_spec u.toNat u.toNat (Nat.le_refl _)
  have Hbd := hid hbd
  have Hs1 := hid s1
  have Hs2 := hid s2
  have Hs3 := hid s3
  have Heq := hid heq
  clear s1 s2 s3 hbd heq
  go_enter Try.func47, Try.ntmps47
  go_wp2_with fail
  go_step3
  go_wp2_with fail
  go_step3
  go_wp2_with fail
  have hbd := Hbd.out
  clear Hbd
  have Hbd := hid hbd
  clear hbd
  go_loop [5, 6, 7] (fun v g i => ∃ (n : Int) (k : Nat), v = .int .i64 n ∧ n = val ((digs u.toNat).take k) ∧ g = .bool true ∧ i = .int .i64 k ∧ k ≤ s.size) (fun _ _ i => s.size - (intOf i).toNat)
  case atStart => exact ⟨0, 0, rfl, rfl, rfl, rfl, Nat.zero_le _⟩
  case round =>
    obtain ⟨n, k, rfl, hn, rfl, rfl, hk⟩ := hrel
    have hlen : (digs u.toNat).length = s.size := by rw [← Hbd.out, bts_length]


    by_cases hlt : k < s.size
    · have hd : decide ((k : Int) < (s.size : Int)) = true := decide_eq_true (by omega)
      have hg : (digs u.toNat)[k]? = some ((s[k]'hlt).toNat : Int) := by rw [← Hbd.out, bts_get? s k hlt]
      have hc := Hs2.out _ (List.mem_of_getElem? hg)
      obtain ⟨hc1, hc2⟩ := hc
      have hpre := Hs3.out k (by omega)
      rw [← hn] at hpre
      obtain ⟨hp1, hp2⟩ := hpre
      have hnext : 10 * n + (((s[k]'hlt).toNat : Int) - 48) = val ((digs u.toNat).take (k + 1)) := by rw [take_next _ _ _ hg, val_snoc, hn]
      have Hnext := hid hnext
      have hnu : n ≤ 461168601842738790 := by omega
      have Hn := hid hn
      clear hn hnext hg hp2 hlen
      go_wp2_with fail
      go_round
      case rel => exact ⟨_, k + 1, rfl, Hnext.out, rfl, by go_num, by omega⟩
      case measure => simp [intOf]; omega
    · obtain rfl : k = s.size := by omega
      have hd : decide ((s.size : Int) < (s.size : Int)) = false := decide_eq_false (by omega)
      have hnu : n = u := by rw [hn, List.take_of_length_le (by omega), Hs1.out]; omega
      subst hnu
      have hne := Heq.out
      have hf : fitZ (n) := by unfold fitZ; omega
      clear hn hlen
      go_wp2_with (first | (go_at_call 51; refine (fit_yes _ _ hf).mono ?_; rintro e w' ⟨rfl, rfl⟩) | (go_at_call 49; refine (text_any _ _ (by omega) (by omega)).mono ?_; rintro e w1 ⟨rfl, hB1⟩))
      (try rw [Exit.noGoto_ret])
      go_ret2
      exact ⟨rfl, hB1⟩

/-! ### num.Parse, whole -/
theorem str_bts (s : ByteArray) : strOfNums (bts s) = s := by
  obtain ⟨d⟩ := s
  unfold strOfNums bts
  congr 1
  apply Array.ext'
  show List.map _ (List.map _ d.toList) = d.toList
  rw [List.map_map]
  conv => rhs; rw [← List.map_id d.toList]
  apply List.map_congr_left
  intro b _
  simp [Function.comp]
theorem bts_str (l : List Int) (h : byteB l) : bts (strOfNums l) = l := by
  unfold bts
  rw [strOfNums_data, List.map_map]
  conv => rhs; rw [← List.map_id l]
  apply List.map_congr_left
  intro b hb
  have := h b hb
  simp only [Function.comp, id]
  rw [UInt8.toNat_ofNat']
  omega
theorem toList_inj {s t : ByteArray} (h : s.toList = t.toList) : s = t := by
  rw [ByteArray.toList_eq, ByteArray.toList_eq] at h
  obtain ⟨a⟩ := s
  obtain ⟨b⟩ := t
  congr 1
  exact Array.ext' h
theorem bts_extract (s : ByteArray) : bts (s.extract 1 s.size) = (bts s).drop 1 := by
  have h : (s.extract 1 s.size).data = s.data.extract 1 s.size := by simp
  unfold bts
  rw [h, Array.toList_extract, List.extract_eq_take_drop, List.map_take, List.map_drop, List.take_of_length_le]
  rw [List.length_drop, List.length_map, Array.length_toList]
  exact Nat.le_refl _
theorem textOf_byte (m : Int) : byteB (textOf m) := by
  have h := (digs_spec m.natAbs m.natAbs (Nat.le_refl _)).2.1
  unfold textOf
  split
  · intro x hx
    rcases List.mem_cons.1 hx with rfl | hx
    · omega
    · have := h x hx; omega
  · intro x hx; have := h x hx; omega
theorem textOf_inj {m n : Int} (h : textOf m = textOf n) : m = n := by
  have h1 := digs_spec m.natAbs m.natAbs (Nat.le_refl _)
  have h2 := digs_spec n.natAbs n.natAbs (Nat.le_refl _)
  have p1 := digs_pos m.natAbs
  have p2 := digs_pos n.natAbs
  unfold textOf at h
  split at h
  · split at h
    · have e : digs m.natAbs = digs n.natAbs := (List.cons.inj h).2
      have := h1.1; rw [e, h2.1] at this; omega
    · exfalso
      have := h2.2.1 45 (by rw [← h]; simp)
      omega
  · split at h
    · exfalso
      have := h1.2.1 45 (by rw [h]; simp)
      omega
    · have := h1.1; rw [h, h2.1] at this; omega
theorem str_textOf_inj {m n : Int} (h : strOfNums (textOf m) = strOfNums (textOf n)) : m = n := by
  apply textOf_inj
  rw [← bts_str _ (textOf_byte m), h, bts_str _ (textOf_byte n)]
/-- What a text's digits say, whatever the text. -/
def cand (s : ByteArray) : Int := if (bts s).head? = some 45 then -val (bts s).tail else val (bts s)
/-- The integer that a text is of, and no error; or 0 and the error 'no number'. -/
def parseOf (s : ByteArray) : Int × Int :=
  if (-4611686018427387904 ≤ cand s ∧ cand s ≤ 4611686018427387903) ∧ strOfNums (textOf (cand s)) = s then (cand s, 0) else (0, 11)
theorem cand_text (n : Int) : cand (strOfNums (textOf n)) = n := by
  unfold cand
  rw [bts_str _ (textOf_byte n)]
  have h := digs_spec n.natAbs n.natAbs (Nat.le_refl _)
  unfold textOf
  split
  · rw [List.head?_cons, if_pos rfl, List.tail_cons, h.1]; omega
  · rw [if_neg, h.1]
    · omega
    · intro h0
      have := h.2.1 45 (List.mem_of_mem_head? h0)
      omega
theorem parseOf_text {n : Int} (h : fitZ n) : parseOf (strOfNums (textOf n)) = (n, 0) := by
  unfold parseOf
  rw [cand_text, if_pos ⟨h, rfl⟩]
theorem parseOf_no {s : ByteArray} (h : ¬ ∃ n, fitZ n ∧ strOfNums (textOf n) = s) : parseOf s = (0, 11) := by
  unfold parseOf
  rw [if_neg]
  rintro ⟨h1, h2⟩
  exact h ⟨_, h1, h2⟩
theorem parse_any (s : ByteArray) (w : World) (hs : s.size ≤ 140737488351232) :
    Calls Try.prog 47 #[.string s] w fun e w' => e = .returned (.tuple #[.int .i64 (parseOf s).1, .int .i64 (parseOf s).2]) ∧ Below w.heap.size w w' := by
  by_cases hex : ∃ n, fitZ n ∧ strOfNums (textOf n) = s
  · obtain ⟨n, hf, rfl⟩ := hex
    rw [parseOf_text hf]
    have hb := bts_str _ (textOf_byte n)
    have hsz : (strOfNums (textOf n)).size = (textOf n).length := by rw [← bts_length, hb]
    generalize hg : strOfNums (textOf n) = s at *
    obtain ⟨hf1, hf2⟩ := hf
    have heq : ((strOfNums (textOf n)).toList == s.toList) = true := by rw [hg]; simp
    have p1 := digs_pos n.natAbs
    have p2 := digs_len 18 n.natAbs (by omega)
    by_cases hn : n < 0
    · have ht : textOf n = 45 :: digs n.natAbs := by unfold textOf; rw [if_pos hn]
      have hp : 0 < s.size := by rw [hsz, ht]; simp
      have h0 := bts_get? s 0 hp
      rw [hb, ht] at h0
      have h45 : ((s[0].toNat : Int) == 45) = true := by
        simp only [List.getElem?_cons_zero, Option.some.injEq] at h0
        rw [← h0]; rfl
      have hl : s.size - 1 = (digs n.natAbs).length := by rw [hsz, ht]; simp
      have hbd : bts (s.extract 1 s.size) = digs (-n).toNat := by
        rw [bts_extract, hb, ht, List.drop_one, List.tail_cons]; congr 1; omega
      have := parse_yes_minus (-n) s w (by omega) (by omega) hs hp h45 (by omega) (decide_eq_true (by omega)) hbd (by rw [Int.neg_neg]; exact heq)
      rw [Int.neg_neg] at this
      exact this
    · have ht : textOf n = digs n.natAbs := by unfold textOf; rw [if_neg hn]
      have hp : 0 < s.size := by rw [hsz, ht]; omega
      have h0 := bts_get? s 0 hp
      rw [hb, ht] at h0
      have h45 : ((s[0].toNat : Int) == 45) = false := by
        have := (digs_spec n.natAbs n.natAbs (Nat.le_refl _)).2.1 _ (List.mem_of_getElem? h0)
        rw [beq_eq_false_iff_ne]; omega
      have hbd : bts s = digs n.toNat := by rw [hb, ht]; congr 1; omega
      exact parse_yes_plus n s w (by omega) hf2 hs hp h45 (decide_eq_true (by rw [hsz, ht]; omega)) hbd heq
  · rw [parseOf_no hex]
    have hno : NoText s := by
      intro n hf
      rw [beq_eq_false_iff_ne]
      intro h
      exact hex ⟨n, hf, toList_inj h⟩
    by_cases hp : 0 < s.size
    · by_cases h45 : ((s[0].toNat : Int) == 45) = true
      · by_cases hp2 : 0 < s.size - 1
        · by_cases h20 : decide (((s.size - 1 : Nat) : Int) < 20) = true
          · exact parse_no_minus s w hs hp h45 hp2 h20 hno
          · exact parse_minus20 s w hs hp h45 hp2 (by simpa using h20)
        · exact parse_minus0 s w hs hp h45 hp2
      · have h45 : ((s[0].toNat : Int) == 45) = false := by simpa using h45
        by_cases h20 : decide ((s.size : Int) < 20) = true
        · exact parse_no_plus s w hs hp h45 h20 hno
        · exact parse_plus20 s w hp h45 (by simpa using h20)
    · exact parse_empty s w hp
end Go.Proofs.Ytebjdjdlpmplpaa.Num
