/- rts.PutText: a text of at most 131064 bytes as an object of a memory with room for it. -/
import Derived.Test.YtdhfnfoimbijmaaMem10
import Derived.Test.YtdhfnfoimbijmaaNum
import Derived.Test.YtdhfnfoimbijmaaPaP
namespace Go.Proofs.Ytdhfnfoimbijmaa.Mem
open Go.RowKit Go.Shelf Go.Proofs.YtdhfnfoimbijmaaW.PrintWords Go.Proofs.YtdhfnfoimbijmaaW.PrintLast Go.Proofs.YtdhfnfoimbijmaaW.PrintMore
open Hf (rightB hdr headOf partsOf)
open Num (bts word cj cj_lt cj_in each_at each_in KB)
set_option linter.unusedSimpArgs false
set_option linter.unusedVariables false
attribute [local go_sem] Oper.semAt_some
variable {S : Nat → Prop} {w w' : World} {g mb n B : Nat} {st : St} {vw vh ow oh : Value}
theorem IsMem.more (M : IsMem S w g st) {T : Nat → Prop} (h : ∀ k, S k → T k) : IsMem T w g st := by
  obtain ⟨vw, vh, ow, oh, mb, n, L⟩ := M
  exact ⟨vw, vh, ow, oh, mb, n, L.more h⟩
theorem IsMem.tight (M : IsMem S w g st) : IsMem (fun k => S k ∧ k < w.heap.size) w g st := by
  obtain ⟨vw, vh, ow, oh, mb, n, L⟩ := M
  exact ⟨vw, vh, ow, oh, mb, n, L.H, L.sz, L.hf, L.fit, L.ofit, L.ows, L.ohs, L.ook, L.map, L.mn, L.apW, L.apH, ⟨L.s1, blk_lt L.H.blk⟩, ⟨L.s2, map_lt L.map⟩, fun k hk => ⟨L.s3 k hk, Kd.R_lt L.H.ws k hk⟩, fun k hk => ⟨L.s4 k hk, Kd.R_lt L.H.hs k hk⟩, fun k hk => ⟨L.s5 k hk, Kd.R_lt L.ows k hk⟩, fun k hk => ⟨L.s6 k hk, Kd.R_lt L.ohs k hk⟩⟩
/-- A store leaves the blocks what they are. -/
theorem IsAt.put (M : IsAt B S w g st) (i j : Nat) (v : Int) (hi : i < st.os.length) (hj : j < st.os[i].fs.length) (hv : 0 ≤ v ∧ v < 18446744073709551616) :
    Calls Try.prog 45 #[.pointer (some ⟨g, 0, none⟩), .int .i64 (st.f + (pos st.os i : Int)), .int .i64 j, .int .u64 v] w fun e w' => e = .returned (.int .i64 0) ∧ IsAt B S w' g { st with os := putO st.os i j v } ∧ Fr S w w' := by
  obtain ⟨vw, vh, ow, oh, mb, m, L, hmb⟩ := M
  refine (store_yes L.H i j v hi hj hv).mono ?_
  rintro e w' ⟨rfl, H', fr⟩
  have fr' : Fr (fun k => k = g ∨ vw.ownBlock = some k ∨ vh.ownBlock = some k) w w' := fr.mono (fun k _ h => .inr (.inl h))
  have L' := L.now H' (.inl rfl) (.inl rfl) fr' (by rw [putO_lens_len]; exact L.fit) (by rw [putO_length]; exact Nat.le_refl _)
  exact ⟨rfl, ⟨vw, vh, ow, oh, mb, m, ⟨L'.H, L'.sz, L'.hf, L'.fit, L'.ofit, L'.ows, L'.ohs, L'.ook, L'.map, L'.mn, L'.apW, L'.apH, L.s1, L.s2, L.s3, L.s4, L.s5, L.s6⟩, hmb⟩, Fr.own L fr'⟩
theorem putO_last (os : List O) (o : O) (j : Nat) (v : Int) : putO (os ++ [o]) os.length j v = os ++ [o.put j v] := by
  rw [putO_eq _ _ _ _ (by simp)]
  simp
theorem pos_last (os : List O) (o : O) : pos (os ++ [o]) os.length = (flat os).length := by
  unfold pos
  rw [List.take_left]
theorem fr_own {β : Type} {W0 : World} (S : Nat → Prop) (hB : W0.heap.size ≤ B) : OwnFrom B (fun (_ : β) W => Fr S W0 W) := fun _ X Y row hs hg hr =>
  ⟨hs.low.trans ⟨hg.os, hg.tape, hg.output, hg.size, fun k hk => absurd hk (Nat.not_lt_zero k)⟩, fun k hk hn => (hg.block k (Nat.lt_of_lt_of_le hk hs.low.size) (fun e => by have := (hr k e.symm).1; omega)).trans (hs.same k hk hn)⟩
theorem Fr.box {W W' : World} {T : Nat → Prop} {b : Nat} {t : TypeId} {v : Value} (fr : Fr T W W') (h : Boxed W b t v) (hn : ¬ T b) : Boxed W' b t v := (fr.same b h.lt hn).trans h
/-- How many words a text has. -/
def nw (s : ByteArray) : Nat := (s.size + 7) / 8
/-- The text's object, of which some words are there. -/
def partO (s : ByteArray) (pre : List Nat) : O := ⟨4, 0, (s.size : Int) :: (List.range (nw s)).map fun j => if j ∈ pre.map (cj s) then word (bts s) j else 0⟩
def textO (s : ByteArray) : O := ⟨4, 0, (s.size : Int) :: (List.range (nw s)).map (word (bts s))⟩
theorem part_nil (s : ByteArray) : ((newO 4 (1 + nw s) 0).put 0 (s.size : Int)) = partO s [] := by
  unfold newO partO O.put
  simp only [List.replicate_zero, List.nil_append, Nat.sub_zero, List.map_nil, List.not_mem_nil, if_false]
  congr 1
  rw [Nat.add_comm, List.replicate_succ, List.set_cons_zero]
  congr 1
  apply List.ext_getElem
  · simp
  · intro i h1 h2; simp
theorem part_len (s : ByteArray) (pre : List Nat) : (partO s pre).fs.length = nw s + 1 := by simp [partO]
theorem part_put (s : ByteArray) (pre : List Nat) (x : Nat) : (partO s pre).put (cj s x + 1) (word (bts s) (cj s x)) = partO s (pre ++ [x]) := by
  unfold partO O.put
  simp only [List.set_cons_succ]
  congr 2
  apply List.ext_getElem
  · simp
  · intro i h1 h2
    simp only [List.getElem_set, List.getElem_map, List.getElem_range, List.map_append, List.map_cons, List.map_nil, List.mem_append, List.mem_singleton]
    by_cases h : cj s x = i
    · subst h; simp
    · rw [if_neg h]
      have : ¬ i = cj s x := fun e => h e.symm
      simp [this]
theorem part_all (s : ByteArray) : partO s (List.range (nw s)) = textO s := by
  unfold partO textO
  congr 2
  apply List.map_congr_left
  intro j hj
  have hlt := List.mem_range.1 hj
  rw [if_pos]
  exact List.mem_map.2 ⟨j, hj, cj_lt s j hlt⟩
theorem word_range (s : ByteArray) (j : Nat) : 0 ≤ word (bts s) j ∧ word (bts s) j < 18446744073709551616 := by
  have hb : Num.byteB (Num.chunk (bts s) j) := ((Num.bts_byte s).drop _).take _
  have h := Num.wval_range _ hb
  have hl := Num.chunk_length s j
  refine ⟨h.1, Int.lt_of_lt_of_le h.2 ?_⟩
  have h8 : (Num.chunk (bts s) j).length ≤ 8 := by omega
  have hm : (Num.chunk (bts s) j).length = 8 ∨ (Num.chunk (bts s) j).length ≤ 7 := by omega
  rcases hm with hm | hm
  · rw [hm]; decide
  · have := Num.pow256_le _ hm; omega
set_option maxRecDepth 100000 in
set_option maxHeartbeats 4000000 in
theorem put_text (M : IsMem S w g st) (s : ByteArray) (hs : s.size ≤ 131064) (hroom : ((flat st.os).length : Int) + (1 + nw s : Nat) + 1 ≤ st.size) :
    Calls Try.prog 27 #[.pointer (some ⟨g, 0, none⟩), .string s] w fun e w' => e = .returned (.tuple #[.int .u64 (2 * (st.f + ((flat st.os).length : Int))), .int .i64 0]) ∧
      IsMem (fun k => S k ∨ w.heap.size ≤ k) w' g { st with os := st.os ++ [textO s] } ∧ Fr S w w' := by
  have hnw : nw s ≤ 16383 := by unfold nw; omega
  have hr : rightB 4 ((1 + nw s : Nat) : Int) ((0 : Nat) : Int) = true := by
    unfold rightB
    rw [if_neg (by omega), if_neg (by decide), if_neg (by decide), if_pos rfl]
    simp
    omega
  have d1 : decide ((s.size : Int) > 131064) = false := decide_eq_false (by omega)
  have hq : ((s.size : Int) + 7) / 8 = (nw s : Int) := by unfold nw; omega
  have M0 := (M.tight).keep (w' := w.alloc (.cells #[.pointer (some ⟨g, 0, none⟩)] 34)) (T := fun _ => False) (Fr.of_below ((Below.refl _ w).alloc (Nat.le_refl _) _)) (fun _ _ h => h)
  have bm := Boxed.new w 34 (.pointer (some ⟨g, 0, none⟩))
  have hcm := bm.cell
  have hA := M0.alloc 4 (1 + nw s) 0 hr hroom
  rw [show ((1 + nw s : Nat) : Int) = 1 + (nw s : Int) from by omega] at hA
  refine (callsIn_wide (n := 5)).1 (callsIn_of_wp_marks Try.func27 rfl trivial ?_ rfl)
  simp only [Try.ntmps27, List.size_toArray, List.length_cons, List.length_nil, Nat.reduceAdd, Nat.reduceSub, Array.replicate_succ, Array.replicate_zero, List.push_toArray, List.append_toArray, List.nil_append, List.cons_append]
  refine wpIn_wide.2 ?_
  go_wp2_with fail
  (with_reducible refine Calls.mono hA ?_)
  rintro e w1 ⟨rfl, M1, fr1⟩
  have bm1 := fr1.box bm (by omega)
  have hwa : (w.alloc (.cells #[.pointer (some ⟨g, 0, none⟩)] 34)).heap.size = w.heap.size + 1 := World.size_alloc _ _
  have hs1 := fr1.low.size
  rw [hwa] at M1 hs1
  have frA : Fr (fun k => S k ∨ w.heap.size ≤ k) w w1 := (Fr.of_below ((Below.refl _ w).alloc (Nat.le_refl _) _)).trans (fr1.mono (fun k _ h => .inl h.1))
  clear hA hwa bm hcm M0
  generalize (w.alloc (.cells #[.pointer (some ⟨g, 0, none⟩)] 34)) = wa at *
  have M1 := (M1.tight).keep (w' := w1.alloc (.cells #[.int .i64 (st.f + ((flat st.os).length : Int))] 3)) (T := fun _ => False) (Fr.of_below ((Below.refl _ w1).alloc (Nat.le_refl _) _)) (fun _ _ h => h)
  have ba := Boxed.new w1 3 (.int .i64 (st.f + ((flat st.os).length : Int)))
  have bm2 := bm1.alloc (.cells #[.int .i64 (st.f + ((flat st.os).length : Int))] 3)
  have fr2 := frA.trans (Fr.of_below ((Below.refl _ w1).alloc (Nat.le_refl _) (.cells #[.int .i64 (st.f + ((flat st.os).length : Int))] 3)))
  have hs2 : w1.heap.size < (w1.alloc (.cells #[.int .i64 (st.f + ((flat st.os).length : Int))] 3)).heap.size := ba.lt
  have hcm := bm2.cell
  have hca := ba.cell
  clear fr1 bm1 frA
  have hS := (M1.at_ (Nat.le_refl _)).put st.os.length 0 (s.size : Int) (by simp) (by simp [newO]; omega) (by omega)
  have hpos : ((pos (st.os ++ [newO 4 (1 + nw s) 0]) st.os.length : Nat) : Int) = ((flat st.os).length : Int) := by rw [pos_last]
  simp only [hpos, putO_last, part_nil] at hS
  have hS : Calls Try.prog 45 #[.pointer (some ⟨g, 0, none⟩), .int .i64 (st.f + ((flat st.os).length : Int)), .int .i64 0, .int .u64 (s.size : Int)] _ _ := hS
  go_wp2_with fail
  (with_reducible refine Calls.mono hS ?_)
  rintro e w3 ⟨rfl, M3, fr3⟩
  have bm3 := fr3.box bm2 (by omega)
  have ba3 := fr3.box ba (by omega)
  have hs3 := fr3.low.size
  have fr3' := fr2.trans (fr3.mono (T := fun k => S k ∨ w.heap.size ≤ k) (fun k _ h => by rcases h.1 with h | h; exact .inl h.1; exact .inr (by omega)))
  clear hS M1 hcm hca fr2 fr3 bm2 ba
  revert bm3 ba3 fr3' M3 hs3 hs2
  generalize (w1.alloc (.cells #[.int .i64 (st.f + ((flat st.os).length : Int))] 3)) = w2
  intro hs2 M3 bm3 ba3 hs3 fr3'
  go_wp2_with fail
  refine (callsIn_wide (n := 5)).1 ((each_in Fence.wide 5 trivial rfl s _).mono ?_)
  rintro e w4 ⟨rfl, rfl⟩
  have bs := Boxed.new w3 9 (.string s)
  have bm4 := bm3.alloc (.cells #[.string s] 9)
  have ba4 := ba3.alloc (.cells #[.string s] 9)
  have fr4 := fr3'.trans (Fr.of_below ((Below.refl _ w3).alloc (Nat.le_refl _) (.cells #[.string s] 9)))
  have M4 := (M3.mem.tight).keep (w' := w3.alloc (.cells #[.string s] 9)) (T := fun _ => False) (Fr.of_below ((Below.refl _ w3).alloc (Nat.le_refl _) _)) (fun _ _ h => h)
  have hs4 : w3.heap.size < (w3.alloc (.cells #[.string s] 9)).heap.size := bs.lt
  clear M3 bm3 ba3 fr3'
  revert bs bm4 ba4 fr4 M4 hs4
  generalize w3.alloc (.cells #[.string s] 9) = w4
  intro bs bm4 ba4 fr4 M4 hs4
  obtain ⟨T, hT⟩ : ∃ T : Nat → Prop, T = fun k => ((S k ∧ k < w.heap.size ∨ w.heap.size + 1 ≤ k) ∧ k < w1.heap.size) ∧ k < w3.heap.size := ⟨_, rfl⟩
  have M4 : IsAt w4.heap.size T w4 g { st with os := st.os ++ [partO s []] } := (M4.more (by rw [hT]; exact fun k h => h)).at_ (Nat.le_refl _)
  have hT1 : ∀ k, T k → k < w1.heap.size := by rw [hT]; exact fun k h => h.1.2
  have hT2 : ¬ T w.heap.size := by rw [hT]; omega
  have hT3 : ¬ T w1.heap.size := by rw [hT]; omega
  have hT4 : ∀ k, T k → S k ∨ w.heap.size ≤ k := by rw [hT]; exact fun k h => by rcases h.1.1 with h | h; exact .inl h.1; exact .inr (by omega)
  clear hT
  go_wp2_with fail
  refine (wpIn_wide (n := 5)).1 ?_
  refine' wpIn_rangeFunc_ownG (F := Fence.wide) (n := 5) rfl (by omega) (gf := 91) (lb := #[.pointer (some ⟨w3.heap.size, 0, none⟩)]) rfl trivial (enters_of Try.func91 (by kernel_rfl) rfl)
    (each_at Fence.wide (5 - 1) trivial rfl (by omega) w3.heap.size s (by omega) _ hs4 bs.cell) (fun h k => h.trans k) (Num.kb_b hs4) (Below.refl _ _) (fun _ => rfl)
    (fun pre W => IsAt w4.heap.size T W g { st with os := st.os ++ [partO s pre] } ∧ Fr T w4 W)
    (fun _ _ _ => False)
    (OwnFrom.and (isAt_own T g (fun pre : List Nat => ({ st with os := st.os ++ [partO s pre] } : St))) (fr_own T (Nat.le_refl _)))
    (fun _ _ _ _ _ hs _ _ => hs)
    ⟨M4, Fr.refl _ _⟩ _ ?assign ?body ?done ?stop
  case assign =>
    intro l x W K hK
    gi_wp2
    exact hK
  case body =>
    rintro l pre x W ⟨hM, hF⟩ hlt
    have bmW := hF.box bm4 hT2
    have baW := hF.box ba4 hT3
    have hcm := bmW.cell
    have hca := baW.cell
    have hx := cj_in s x (by omega)
    have hx2 : cj s x < nw s := hx
    have hS := hM.put st.os.length (cj s x + 1) (word (bts s) (cj s x)) (by simp) (by simp [part_len]; omega) (word_range s _)
    have hpos : ((pos (st.os ++ [partO s pre]) st.os.length : Nat) : Int) = ((flat st.os).length : Int) := by rw [pos_last]
    simp only [hpos, putO_last, part_put] at hS
    rw [show ((cj s x + 1 : Nat) : Int) = (cj s x : Int) + 1 from by omega] at hS
    have hS : Calls Try.prog 45 #[.pointer (some ⟨g, 0, none⟩), .int .i64 (st.f + ((flat st.os).length : Int)), .int .i64 ((cj s x : Int) + 1), .int .u64 (word (bts s) (cj s x))] _ _ := hS
    have hcb : (cj s x : Int) ≤ 16383 := by omega
    clear hpos
    gi_wp2
    refine ⟨trivial, (CallsIn.inRound l ((callsIn_wide (n := 2)).2 hS)).mono ?_⟩
    rintro e w5 ⟨rfl, hM5, hF5⟩
    gi_wp2
    have h13 : w1.heap.size ≤ w3.heap.size := by omega
    refine ⟨⟨hF5.low.size, fun i o hi ho hc => (hF5.same i (Array.getElem?_eq_some_iff.1 ho).1 (fun h => by have := hT1 i h; omega)).trans ho⟩, ?_, hM5, hF.trans hF5⟩
    exact hF5.same w3.heap.size (Nat.lt_of_lt_of_le hs4 hF.low.size) (fun h => by have := hT1 _ h; omega)
  case done =>
    rintro D ys W hD rfl ⟨hM, hF⟩ hK
    have baW := hF.box ba4 hT3
    have hca := baW.cell
    have hfa : 1 ≤ st.f ∧ st.f ≤ 200000 := by
      obtain ⟨vw, vh, ow, oh, mb, n, L⟩ := M
      have h1 := L.sz
      refine ⟨?_, L.H.hf.2⟩
      unfold St.f
      rcases L.hf with h | h <;> rw [h] <;> omega
    have hfl : ((flat st.os).length : Int) ≤ 65536 := by
      obtain ⟨vw, vh, ow, oh, mb, n, L⟩ := M
      have := L.H.hl
      omega
    have hP := Pa.num_Ptr.calls (st.f + ((flat st.os).length : Int)) (2 * (st.f + ((flat st.os).length : Int))) W (by
      unfold Pa.num_Ptr.f
      rw [if_neg (by omega), if_neg (by omega), IntKind.wrap_u64, IntKind.wrap_u64]
      congr 1
      omega)
    have hK' := hK
    go_wp2_with fail
    (with_reducible refine Calls.mono hP ?_)
    rintro e w5 ⟨rfl, hd⟩
    clear hP
    have hK5 : w5.heap[D]? = some (.deferred (some [])) := (hd.below.block D (Array.getElem?_eq_some_iff.1 hK).1).trans hK
    have frd : Fr T w4 w5 := hF.trans (Fr.of_drawn hd)
    have hM5 := hM.mem.keep (w' := w5) (T := fun _ => False) (Fr.of_drawn hd) (fun _ _ h => h)
    go_wp2_with fail
    refine ⟨by simp, .inl ⟨_, _, rfl, run_takeDeferred hK5, ?_⟩⟩
    have hgD := grownBy_putObj' w5 D (.deferred none)
    have frD : Fr (fun k => k = D) w5 (w5.putObj D (.deferred none)) := Fr.of_grown hgD (fun k hk => (Option.some.inj hk).symm)
    have hM6 := (hM5.keep frD (fun k hk e => by have := hT1 k hk; omega)).more hT4
    have hall : partO s (List.range ((s.size + 7) / 8)) = textO s := part_all s
    rw [hall] at hM6
    refine ⟨_, results_list (rs := [.tmp 4, .tmp 5]) rfl (by simp) (.tmp (.tmp .nil)), rfl, hM6, ?_⟩
    have frT := (fr4.trans (frd.mono (T := fun k => S k ∨ w.heap.size ≤ k) (fun k _ h => hT4 k h))).trans (frD.mono (T := fun k => S k ∨ w.heap.size ≤ k) (fun k _ h => .inr (by omega)))
    exact frT.mono (fun k hk h => by rcases h with h | h; exact h; omega)
  case stop =>
    rintro D c pre W _ _ h _
    exact h.elim
end Go.Proofs.Ytdhfnfoimbijmaa.Mem
