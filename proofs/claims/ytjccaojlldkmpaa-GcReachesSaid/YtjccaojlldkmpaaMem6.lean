/- What Store, Words, Half, Look do. -/
import Derived.Test.YtjccaojlldkmpaaKnown
namespace Go.Proofs.Ytjccaojlldkmpaa.Mem
open Go.RowKit Go.Proofs.YtjccaojlldkmpaaW.PrintWords Go.Proofs.YtjccaojlldkmpaaW.PrintLast Go.Proofs.YtjccaojlldkmpaaW.PrintMore
open Hf (rightB hdr headOf partsOf)
set_option linter.unusedSimpArgs false
set_option linter.unusedVariables false
variable {w : World} {g : Nat} {size half f f2 : Int} {ow oh mv vw vh : Value} {os : List O}
/-- An object with another word in a field. -/
def O.put (o : O) (j : Nat) (v : Int) : O := ⟨o.kind, o.tag, o.fs.set j v⟩
def putO (os : List O) (i j : Nat) (v : Int) : List O := os.modify i (fun o => o.put j v)
theorem put_length (o : O) (j : Nat) (v : Int) : (o.put j v).fs.length = o.fs.length := by simp [O.put]
theorem put_row (o : O) (j : Nat) (v : Int) : (o.put j v).row = o.row.set (j + 1) v := by
  unfold O.row
  rw [put_length, List.set_cons_succ]
  rfl
theorem putO_length (os : List O) (i j : Nat) (v : Int) : (putO os i j v).length = os.length := by simp [putO]
theorem putO_eq (os : List O) (i j : Nat) (v : Int) (hi : i < os.length) : putO os i j v = os.take i ++ (os[i].put j v :: os.drop (i + 1)) := by
  unfold putO
  rw [List.modify_eq_take_cons_drop hi]
theorem flat_put (os : List O) (i j : Nat) (v : Int) (hi : i < os.length) (hj : j < os[i].fs.length) : flat (putO os i j v) = (flat os).set (pos os i + j + 1) v := by
  rw [putO_eq os i j v hi, flat_at os i hi, flat_append, show os[i].put j v :: os.drop (i + 1) = [os[i].put j v] ++ os.drop (i + 1) from rfl, flat_append, flat_one, put_row]
  unfold pos
  rw [List.set_append_right _ _ (by omega), List.set_append_left _ _ (by rw [row_length]; omega)]
  congr 3
  omega
theorem lens_put (os : List O) (i j : Nat) (v : Int) : (putO os i j v).map (fun o => o.fs.length) = os.map (fun o => o.fs.length) := by
  apply List.ext_getElem?
  intro m
  unfold putO
  rw [List.getElem?_map, List.getElem?_map, List.getElem?_modify]
  by_cases h : i = m
  · subst h
    cases os[i]? with
    | none => simp
    | some o => simp [put_length]
  · simp [h]
theorem flat_len (os : List O) : (flat os).length = ((os.map (fun o => o.fs.length)).map (· + 1)).sum := by
  induction os with
  | nil => rfl
  | cons o os ih =>
    rw [show o :: os = [o] ++ os from rfl, flat_append, flat_one, List.length_append, row_length, ih]
    simp
theorem pos_lens {a b : List O} (h : a.map (fun o => o.fs.length) = b.map (fun o => o.fs.length)) (m : Nat) : pos a m = pos b m := by
  unfold pos
  rw [flat_len, flat_len]
  simp only [List.map_take, h]
theorem heads_lens {a b : List O} (f : Int) (h : a.map (fun o => o.fs.length) = b.map (fun o => o.fs.length)) : heads f a = heads f b := by
  have hl : a.length = b.length := by simpa using congrArg List.length h
  unfold heads
  rw [hl]
  apply List.map_congr_left
  intro m _
  rw [pos_lens h m]
theorem putO_get (os : List O) (i j : Nat) (v : Int) (m : Nat) (hm : m < (putO os i j v).length) (hm' : m < os.length) : (putO os i j v)[m] = if i = m then os[m].put j v else os[m] := by
  simp [putO, List.getElem_modify]
theorem ok_put {o : O} (h : o.ok) (j : Nat) (v : Int) (hv : 0 ≤ v ∧ v < 18446744073709551616) : (o.put j v).ok := by
  refine ⟨by rw [put_length]; exact h.1, fun x hx => ?_⟩
  rcases List.mem_or_eq_of_mem_set hx with hx | rfl
  · exact h.2 x hx
  · exact hv
theorem Half.put (H : Half w g size half f f2 ow oh mv vw vh os) {w' : World} (i j : Nat) (v : Int) (hi : i < os.length) (hj : j < os[i].fs.length) (hv : 0 ≤ v ∧ v < 18446744073709551616)
    (hb : w'.heap[g]? = some (.cells (cellsOf size half f vw vh f2 ow oh mv) 96 (0, 0))) (hw : Ws w' vw ((flat os).set (pos os i + j + 1) v)) (hh : Hs w' vh (heads f os)) :
    Half w' g size half f f2 ow oh mv vw vh (putO os i j v) := by
  refine ⟨hb, by rw [flat_put os i j v hi hj]; exact hw, by rw [heads_lens f (lens_put os i j v)]; exact hh, fun o ho => ?_, H.hf, by rw [flat_put os i j v hi hj, List.length_set]; exact H.hl⟩
  obtain ⟨m, hm, rfl⟩ := List.mem_iff_getElem.1 ho
  have hm' : m < os.length := by rw [putO_length] at hm; exact hm
  rw [putO_get os i j v m hm hm']
  split
  · exact ok_put (H.ok _ (List.getElem_mem hm')) j v hv
  · exact H.ok _ (List.getElem_mem hm')
set_option maxHeartbeats 4000000 in
set_option maxRecDepth 100000 in
theorem store_yes (H : Half w g size half f f2 ow oh mv vw vh os) (i j : Nat) (v : Int) (hi : i < os.length) (hj : j < os[i].fs.length) (hv : 0 ≤ v ∧ v < 18446744073709551616) :
    Calls Try.prog 44 #[.pointer (some ⟨g, 0, none⟩), .int .i64 (f + (pos os i : Int)), .int .i64 j, .int .u64 v] w fun e w' => e = .returned (.int .i64 0) ∧ Half w' g size half f f2 ow oh mv vw vh (putO os i j v) ∧ Fr (fun k => vw.ownBlock = some k) w w' := by
  have hp := pos_head os i hi
  have hfl := H.hl
  have hf := H.hf
  obtain ⟨L, hL⟩ : ∃ L, os[i].fs.length = L := ⟨_, rfl⟩
  have d1 : decide ((j : Int) < 0) = false := decide_eq_false (by omega)
  have d2 : decide ((j : Int) ≥ (L : Int)) = false := decide_eq_false (by omega)
  have d3 : decide (0 ≤ (j : Int) + 1) = true := decide_eq_true (by omega)
  have d4 : decide ((j : Int) + 1 < ((L + 1 : Nat) : Int)) = true := decide_eq_true (by omega)
  have d5 : (j : Int) < (L : Int) := by omega
  have d6 : (L : Int) ≤ 65536 := by omega
  go_enter Try.func44, Try.ntmps44
  go_wp2_with (first
    | (go_at_call 67; refine (H.at_yes i hi _ ⟨0, rfl⟩).mono ?_; rintro e w5 ⟨⟨gw, c, hv2, hcap, rfl⟩, ⟨m5, rfl⟩⟩
       obtain ⟨hc, hz⟩ := H.field hi hv2 (j + 1) (by omega)
       rw [hL]))
  go_ret
  subst hv2
  have hput := Kd.R_putg (Kd.R_drewN H.ws m5) ((pos os i + j + 1 : Nat) : Int) v
  rw [Int.toNat_natCast] at hput
  have hgn : some g ≠ (Value.slice (some ⟨gw, 0, none⟩) (flat os).length c).ownBlock := Kd.R_ne H.ws H.blk (by decide)
  have hb' := blk_grown (blk_drewN H.blk m5) hput.2 hgn
  have HH' := Kd.R_over (Kd.R_drewN H.hs m5) (Kd.R_drewN H.ws m5) (by intro q hq; simp [Kd.int, Kd.scalar] at hq; omega) hput.2
  refine ⟨rfl, H.put i j v hi hj hv hb' hput.1 HH', ?_⟩
  exact (Fr.of_drawn (x := w) ⟨m5, rfl⟩).trans (Fr.of_grown hput.2 (fun k hk => hk))
set_option maxHeartbeats 4000000 in
set_option maxRecDepth 100000 in
theorem store_no (H : Half w g size half f f2 ow oh mv vw vh os) (a x v : Int) (ha : -9223372036854775808 ≤ a ∧ a ≤ 9223372036854775807) (hx : -9223372036854775808 ≤ x ∧ x ≤ 9223372036854775807) (hn : NoField f os a x) :
    Calls Try.prog 44 #[.pointer (some ⟨g, 0, none⟩), .int .i64 a, .int .i64 x, .int .u64 v] w fun e w' => e = .returned (.int .i64 20) ∧ Drawn0 w w' := by
  rcases hn with hn | ⟨i, hi, rfl, hx2⟩
  · by_cases h0 : x < 0
    · have d1 : decide (x < 0) = true := decide_eq_true h0
      go_enter Try.func44, Try.ntmps44
      go_wp2_with (first
        | (go_at_call 67; refine (H.at_no a ha hn _ ⟨0, rfl⟩).mono ?_; rintro e w5 ⟨rfl, ⟨m5, rfl⟩⟩))
      go_ret
      exact ⟨rfl, ⟨_, rfl⟩⟩
    · have d1 : decide (x < 0) = false := decide_eq_false h0
      have d2 : decide (x ≥ -1) = true := decide_eq_true (by omega)
      go_enter Try.func44, Try.ntmps44
      go_wp2_with (first
        | (go_at_call 67; refine (H.at_no a ha hn _ ⟨0, rfl⟩).mono ?_; rintro e w5 ⟨rfl, ⟨m5, rfl⟩⟩))
      go_ret
      exact ⟨rfl, ⟨_, rfl⟩⟩
  · have hp := pos_head os i hi
    have hfl := H.hl
    obtain ⟨L, hL⟩ : ∃ L, os[i].fs.length = L := ⟨_, rfl⟩
    rw [hL] at hx2 hp
    have d6 : (L : Int) ≤ 65536 := by omega
    by_cases h0 : x < 0
    · have d1 : decide (x < 0) = true := decide_eq_true h0
      go_enter Try.func44, Try.ntmps44
      go_wp2_with (first
        | (go_at_call 67; refine (H.at_yes i hi _ ⟨0, rfl⟩).mono ?_; rintro e w5 ⟨⟨gw, c, hv, hcap, rfl⟩, ⟨m5, rfl⟩⟩; rw [hL]))
      go_ret
      exact ⟨rfl, ⟨_, rfl⟩⟩
    · have d1 : decide (x < 0) = false := decide_eq_false h0
      have d2 : decide (x ≥ (L : Int)) = true := decide_eq_true (by omega)
      go_enter Try.func44, Try.ntmps44
      go_wp2_with (first
        | (go_at_call 67; refine (H.at_yes i hi _ ⟨0, rfl⟩).mono ?_; rintro e w5 ⟨⟨gw, c, hv, hcap, rfl⟩, ⟨m5, rfl⟩⟩; rw [hL]))
      go_ret
      exact ⟨rfl, ⟨_, rfl⟩⟩
theorem half_any (H : Half w g size half f f2 ow oh mv vw vh os) : Calls Try.prog 30 #[.pointer (some ⟨g, 0, none⟩)] w fun e w' => e = .returned (.int .i64 half) ∧ w' = w := by
  have hc : w.cell? ⟨g, 1, none⟩ = some (.int .i64 half) := (blk_cell H.blk 1).trans rfl
  go_enter Try.func30, Try.ntmps30
  go_wp2_with fail
  go_ret
  exact ⟨rfl, rfl⟩
set_option maxRecDepth 100000 in
theorem slice_there (a : Addr) (n c : Nat) (W : World) : (binOp .eql 32 (.slice (some a) n c) (.slice none 0 0)).run Try.prog W = .ok (.bool false) W := by
  first
  | rfl
  | kernel_rfl
set_option maxRecDepth 100000 in
theorem slice_none (W : World) : (binOp .eql 32 (.slice none 0 0) (.slice none 0 0)).run Try.prog W = .ok (.bool true) W := by
  first
  | rfl
  | kernel_rfl
set_option maxHeartbeats 4000000 in
set_option maxRecDepth 100000 in
theorem look_yes (H : Half w g size half f f2 ow oh mv vw vh os) (i : Nat) (hi : i < os.length) :
    Calls Try.prog 34 #[.pointer (some ⟨g, 0, none⟩), .int .i64 (f + (pos os i : Int))] w fun e w' => e = .returned (.tuple #[.int .i64 os[i].kind, .int .i64 os[i].fs.length, .int .i64 os[i].tag, .int .i64 0]) ∧ Drawn0 w w' := by
  have ho := H.ok _ (List.getElem_mem hi)
  have hu := Hf.hdr_u64 ho.1
  have hpf := Hf.parts_f 0 _ hu.1 hu.2
  rw [Hf.parts_hdr ho.1] at hpf
  go_enter Try.func34, Try.ntmps34
  go_wp2_with (first
    | (go_at_call 67; refine (H.at_yes i hi _ ⟨0, rfl⟩).mono ?_; rintro e w5 ⟨⟨gw, c, hv2, hcap, rfl⟩, ⟨m5, rfl⟩⟩
       obtain ⟨hc, hz⟩ := H.field hi hv2 0 (by omega)
       rw [Nat.add_zero, show os[i].row.getD 0 0 = hdr os[i].kind os[i].fs.length os[i].tag from rfl] at hc
       have hne := slice_there ⟨gw, pos os i, none⟩ (os[i].fs.length + 1) (c - pos os i))
    | (go_at_call 68; (with_reducible refine (Hd.mem_Parts.calls 2 _ _ _ _ _ _ hpf).mono ?_); rintro e w6 ⟨rfl, ⟨m6, rfl⟩⟩))
  refine bodyPost_ret (results_list (rs := [.tmp 4, .tmp 5, .tmp 6, .tmp 7]) rfl (by simp) (.tmp (.tmp (.tmp (.tmp .nil))))) rfl ?_
  exact ⟨rfl, ⟨_, rfl⟩⟩
set_option maxHeartbeats 4000000 in
set_option maxRecDepth 100000 in
theorem look_no (H : Half w g size half f f2 ow oh mv vw vh os) (a : Int) (ha : -9223372036854775808 ≤ a ∧ a ≤ 9223372036854775807) (hn : NoHead f os a) :
    Calls Try.prog 34 #[.pointer (some ⟨g, 0, none⟩), .int .i64 a] w fun e w' => e = .returned (.tuple #[.int .i64 0, .int .i64 0, .int .i64 0, .int .i64 20]) ∧ Drawn0 w w' := by
  have hne := slice_none
  go_enter Try.func34, Try.ntmps34
  go_wp2_with (first
    | (go_at_call 67; refine (H.at_no a ha hn _ ⟨0, rfl⟩).mono ?_; rintro e w5 ⟨rfl, ⟨m5, rfl⟩⟩))
  refine bodyPost_ret (results_list (rs := [.tmp 4, .tmp 5, .tmp 6, .tmp 7]) rfl (by simp) (.tmp (.tmp (.tmp (.tmp .nil))))) rfl ?_
  exact ⟨rfl, ⟨_, rfl⟩⟩
end Go.Proofs.Ytjccaojlldkmpaa.Mem
