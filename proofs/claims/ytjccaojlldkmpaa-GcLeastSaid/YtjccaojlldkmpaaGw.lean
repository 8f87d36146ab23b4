/- gc.walk: the closure that takes a word. -/
import Derived.Test.YtjccaojlldkmpaaGm
import Derived.Test.YtjccaojlldkmpaaNumP
namespace Go.Proofs.Ytjccaojlldkmpaa.Mem
open Go.RowKit Go.Proofs.YtjccaojlldkmpaaW.PrintWords Go.Proofs.YtjccaojlldkmpaaW.PrintLast Go.Proofs.YtjccaojlldkmpaaW.PrintMore
open Hf (rightB hdr headOf partsOf)
set_option linter.unusedSimpArgs false
set_option linter.unusedVariables false
set_option maxRecDepth 100000
variable {S : Nat → Prop} {w W w' : World} {g n : Nat} {st : St}
theorem isInt_f {x : Int} (h : 0 ≤ x ∧ x < 18446744073709551616) : Pa.num_IsInt.f x = some (x % 2 == 1) := by
  unfold Pa.num_IsInt.f
  rw [Hf.and_mask 1 1 rfl (by decide) x h.1 h.2]
  rfl
/-- The address of a word. -/
def toP (x : Int) : Int := if x % 2 = 0 ∧ 2 ≤ x ∧ x ≤ 2199023255552 then x / 2 else 0
theorem toP_f {x : Int} (h : 0 ≤ x ∧ x < 18446744073709551616) : Pa.num_ToPtr.f x = some (toP x) := by
  have hP : Pa.num_IsPtr.f x = some (decide (x % 2 = 0 ∧ 2 ≤ x ∧ x ≤ 2199023255552)) := by
    unfold Pa.num_IsPtr.f
    rw [Hf.and_mask 1 1 rfl (by decide) x h.1 h.2]
    by_cases h1 : x % 2 = 0
    · rw [if_pos (show x % ((2 ^ 1 : Nat) : Int) = 0 from h1)]
      by_cases h2 : x ≥ 2
      · rw [if_pos h2]
        congr 1
        apply decide_eq_decide.2
        omega
      · rw [if_neg h2]
        congr 1
        symm
        apply decide_eq_false
        omega
    · rw [if_neg (show ¬ x % ((2 ^ 1 : Nat) : Int) = 0 from h1)]
      congr 1
      symm
      apply decide_eq_false
      omega
  unfold Pa.num_ToPtr.f toP
  rw [hP, Option.bind_some]
  by_cases h1 : x % 2 = 0 ∧ 2 ≤ x ∧ x ≤ 2199023255552
  · rw [if_pos h1, if_pos (decide_eq_true h1)]
    congr 1
    unfold wrap64
    omega
  · rw [if_neg h1, if_neg (by rw [decide_eq_false h1]; decide)]
theorem IsMem.fbound (M : IsMem S w g st) : 1 ≤ st.f ∧ st.f ≤ 200000 ∧ (flat st.os).length ≤ 65536 := by
  obtain ⟨vw, vh, ow, oh, mb, n, L⟩ := M
  have h1 := L.sz
  refine ⟨?_, L.H.hf.2, L.H.hl⟩
  unfold St.f
  rcases L.hf with h | h <;> rw [h] <;> omega
theorem IsMem.below (M : IsMem S w g st) (hb : Below w.heap.size w w') : IsMem S w' g st :=
  ((M.bound).keep (T := fun k => w.heap.size ≤ k) ⟨hb.mono (Nat.zero_le _), fun k hk _ => hb.block k hk⟩ (fun k h h2 => by omega)) |> fun M => by
    obtain ⟨vw, vh, ow, oh, mb, n, L⟩ := M
    exact ⟨vw, vh, ow, oh, mb, n, L.more (fun k h => h.1)⟩
theorem IsMem.head_range (M : IsMem S w g st) {a : Int} (h : a ∈ heads st.f st.os) : 1 ≤ a ∧ a ≤ 300000 := by
  obtain ⟨h1, h2, h3⟩ := M.fbound
  obtain ⟨i, hi, rfl⟩ := mem_heads.1 h
  have := pos_head st.os i hi
  omega
theorem IsMem.os_len (M : IsMem S w g st) : st.os.length ≤ 65536 := by
  have := M.fbound
  have := len_le st.os
  omega
theorem toP_head (M : IsMem S w g st) {x : Int} (h0 : ¬ x % 2 = 1) (h : x / 2 ∈ heads st.f st.os) : toP x = x / 2 := by
  have := M.head_range h
  unfold toP
  rw [if_pos (by omega)]
theorem toP_no (M : IsMem S w g st) {x : Int} (h0 : ¬ x % 2 = 1) (h : x / 2 ∉ heads st.f st.os) : NoHead st.f st.os (toP x) := by
  apply no_head
  intro h2
  unfold toP at h2
  by_cases h1 : x % 2 = 0 ∧ 2 ≤ x ∧ x ≤ 2199023255552
  · rw [if_pos h1] at h2
    exact h h2
  · rw [if_neg h1] at h2
    have := M.head_range h2
    omega
theorem toP_range (x : Int) : 0 ≤ toP x ∧ toP x ≤ 1099511627776 := by
  unfold toP
  split <;> omega
theorem IsMem.look_no (M : IsMem S w g st) (a : Int) (ha : -9223372036854775808 ≤ a ∧ a ≤ 9223372036854775807) (hn : NoHead st.f st.os a) :
    Calls Try.prog 34 #[.pointer (some ⟨g, 0, none⟩), .int .i64 a] w fun e w' => e = .returned (.tuple #[.int .i64 0, .int .i64 0, .int .i64 0, .int .i64 20]) ∧ Drawn0 w w' := by
  obtain ⟨vw, vh, ow, oh, mb, m, L⟩ := M
  exact Mem.look_no L.H a ha hn
/-- The walk's cells: the memory, the map of what was seen, the order. -/
structure Wk (w W : World) (g bm bs bo : Nat) (f : Int) (os : List O) (l : List Int) : Prop where
  hb : Below w.heap.size w W
  m : W.heap[bm]? = some (.cells #[.pointer (some ⟨g, 0, none⟩)] 26 (0, 0))
  s : ∃ mb, W.heap[bs]? = some (.cells #[.map (some mb)] 94 (0, 0)) ∧ w.heap.size ≤ mb ∧ ∃ n D, W.ownsMap Try.prog 3 (plainElem Try.prog 3) mb n D ∧ n ≤ l.length ∧ Maps.IsMap (D : DataW Unit) ∧
    ∀ a : Int, D.atKey (.int .i64 a) (.lit (.int .i64 0)) = .lit (.int .i64 (if a ∈ l then 1 else 0))
  o : ∃ A c, W.heap[bo]? = some (.cells #[.slice A l.length c] 23 (0, 0)) ∧ (Kd.int .i64).R 3 W w.heap.size (fun _ => True) (.slice A l.length c) l
  g1 : w.heap.size ≤ bm
  g2 : w.heap.size ≤ bs
  g3 : w.heap.size ≤ bo
  ord : Ord f os l
theorem R_far_lt {v : Value} {xs : List Int} {b : Nat} {T : Nat → Prop} (h : (Kd.int .i64).R 3 w b (fun _ => True) v xs) (fr : Fr T w w') (hn : ∀ k, v.ownBlock = some k → ¬ T k) : (Kd.int .i64).R 3 w' b (fun _ => True) v xs :=
  Kd.R_mono (Kd.R_step (Kd.R_tight rfl h) (fun k hk hl => fr.same k hl (hn k hk.symm))) (fun _ _ => trivial)
theorem Wk.drawn {bm bs bo : Nat} {f : Int} {os : List O} {l : List Int} (K : Wk w W g bm bs bo f os l) (hd : Drawn0 W w') : Wk w w' g bm bs bo f os l := by
  have fr := Fr.of_drawn (S := fun _ => False) hd
  obtain ⟨mb, h1, h2, n, D, h3, h4, h5, h6⟩ := K.s
  obtain ⟨A, c, o1, o2⟩ := K.o
  exact ⟨below_step K.hb hd.below, (fr.same _ (blk_lt K.m) (fun h => h)).trans K.m, ⟨mb, (fr.same _ (blk_lt h1) (fun h => h)).trans h1, h2, n, D, keepMap h3 (fr.same _ h3.lt (fun h => h)), h4, h5, h6⟩,
    ⟨A, c, (fr.same _ (blk_lt o1) (fun h => h)).trans o1, R_far_lt o2 fr (fun _ _ h => h)⟩, K.g1, K.g2, K.g3, K.ord⟩
theorem wf_i64' {n : Int} (h : -9223372036854775808 ≤ n ∧ n ≤ 9223372036854775807) : (Lit.int .i64 n).wf = true := wf_i64 h
/-- What a new object does to the cells. -/
theorem Wk.push {bm bs bo mb n : Nat} {f : Int} {os : List O} {l : List Int} {a : Int} {w4 w5 : World} {D : DataW Unit} {A v : Value} (K : Wk w W g bm bs bo f os l)
    (h1 : W.heap[bs]? = some (.cells #[.map (some mb)] 94 (0, 0))) (h2 : w.heap.size ≤ mb) (h3 : W.ownsMap Try.prog 3 (plainElem Try.prog 3) mb n D) (h4 : n ≤ l.length) (h5 : Maps.IsMap (D : DataW Unit))
    (h6 : ∀ a : Int, D.atKey (.int .i64 a) (.lit (.int .i64 0)) = .lit (.int .i64 (if a ∈ l then 1 else 0))) (hl : a ∉ l) (ha : a ∈ heads f os) (o1 : W.heap[bo]? = some (.cells #[A] 23 (0, 0))) (o2 : (Kd.int .i64).R 3 W w.heap.size (fun _ => True) A l)
    (hown : w4.ownsMap Try.prog 3 (plainElem Try.prog 3) mb (n + 1) (D.put (.int .i64 a) (.lit (.int .i64 1)))) (hg4 : W.grownBy w4 (some mb))
    (hr : (Kd.int .i64).R 3 w5 w.heap.size (fun _ => True) v (l ++ [a])) (hg5 : w4.grownBy w5 A.ownBlock) :
    Wk w (w5.setCell ⟨bo, 0, none⟩ v) g bm bs bo f os (l ++ [a]) := by
  have fr4 : Fr (fun k => k = mb) W w4 := Fr.of_grown hg4 (fun k e => by cases e; rfl)
  have fr5 : Fr (fun k => A.ownBlock = some k) w4 w5 := Fr.of_grown hg5 (fun k e => e)
  have tyA : ∀ k, A.ownBlock = some k → ∃ cs, W.heap[k]? = some (.cells cs 3 (0, 0)) := fun k hk => Kd.R_typed o2 k hk
  have nA : ∀ {k : Nat} {cs : Array Value} {t : TypeId}, W.heap[k]? = some (.cells cs t (0, 0)) → t ≠ 3 → ¬ A.ownBlock = some k := fun hk ht e => by
    obtain ⟨cs, h⟩ := tyA _ e
    rw [hk] at h
    cases h
    exact ht rfl
  have nm : ∀ {k : Nat} {cs : Array Value} {t : TypeId}, W.heap[k]? = some (.cells cs t (0, 0)) → k ≠ mb := fun hk e => map_ne h3 hk e.symm
  have mvd : ∀ {k : Nat} {cs : Array Value} {t : TypeId}, W.heap[k]? = some (.cells cs t (0, 0)) → t ≠ 3 → w5.heap[k]? = some (.cells cs t (0, 0)) := fun hk ht =>
    ((fr5.same _ (Nat.lt_of_lt_of_le (blk_lt hk) fr4.low.size) (nA hk ht)).trans (fr4.same _ (blk_lt hk) (nm hk))).trans hk
  have hb : Below w.heap.size w w5 := by
    refine ⟨?_, ?_, ?_, ?_, ?_⟩
    · exact fr5.low.os.trans (fr4.low.os.trans K.hb.os)
    · exact fr5.low.tape.trans (fr4.low.tape.trans K.hb.tape)
    · exact fr5.low.output.trans (fr4.low.output.trans K.hb.output)
    · exact Nat.le_trans K.hb.size (Nat.le_trans fr4.low.size fr5.low.size)
    · intro i hi
      have hiW := Nat.lt_of_lt_of_le hi K.hb.size
      refine ((fr5.same i (Nat.lt_of_lt_of_le hiW fr4.low.size) (fun e => ?_)).trans (fr4.same i hiW (by omega))).trans (K.hb.block i hi)
      have := Kd.R_base o2 i e
      omega
  have hmb5 : w5.ownsMap Try.prog 3 (plainElem Try.prog 3) mb (n + 1) (D.put (.int .i64 a) (.lit (.int .i64 1))) := keepMap hown (fr5.same _ hown.lt (fun e => by
    obtain ⟨cs, h⟩ := tyA _ e
    exact map_ne h3 h rfl))
  have o5 : w5.heap[bo]? = some (.cells #[A] 23 (0, 0)) := mvd o1 (by decide)
  have hnb : ∀ {k : Nat} {cs : Array Value} {t : TypeId}, w5.heap[k]? = some (.cells cs t (0, 0)) → t ≠ 23 → k ≠ bo := fun hk ht e => by
    subst e
    rw [o5] at hk
    cases hk
    exact ht rfl
  have hlen : l.length + 1 = (l ++ [a]).length := by simp
  obtain ⟨A', c', rfl⟩ := Kd.R_slice hr
  refine ⟨below_set hb K.g3, blk_far (mvd K.m (by decide)) (hnb (mvd K.m (by decide)) (by decide)) _, ⟨mb, blk_far (mvd h1 (by decide)) (hnb (mvd h1 (by decide)) (by decide)) _, h2, n + 1, _, keepMap hmb5 ?_, by rw [← hlen]; omega, ?_, ?_⟩, ⟨A', c', blk_put o5 0 _ rfl, ?_⟩, K.g1, K.g2, K.g3, ?_⟩
  · exact (Fr.of_set (S := fun k => k = bo) w5 ⟨bo, 0, none⟩ _ rfl).same mb hmb5.lt (fun e => map_ne hmb5 o5 e)
  · exact h5.put _ _
  · intro b
    by_cases e : b = a
    · subst e
      rw [Maps.atKey_put_same h5 (by first | exact trivial | exact .inl ⟨_, _, rfl⟩ | simp [WideAt.IsKeyLit]), if_pos (by simp)]
    · rw [Maps.atKey_put_other (by intro e2; injection e2 with _ e2; exact e e2), h6 b]
      congr 2
      simp [e]
  · exact R_far_lt hr (Fr.of_set (S := fun k => k = bo) w5 ⟨bo, 0, none⟩ _ rfl) (fun k hk => by
      obtain ⟨cs, h⟩ := Kd.R_typed hr k hk
      exact hnb h (by decide))
  · have := K.ord.add1 (x := 2 * a) (l' := l ++ [a])
    refine (this ?_).1
    unfold add1
    rw [if_neg (by omega), show 2 * a / 2 = a by omega, if_pos ha, if_neg hl]
theorem Wk.same {bm bs bo : Nat} {f : Int} {os : List O} {l : List Int} (K : Wk w W g bm bs bo f os l) (hb : Below W.heap.size W w') : Wk w w' g bm bs bo f os l := by
  have fr := Fr.of_below (S := fun _ => False) hb
  obtain ⟨mb, h1, h2, n, D, h3, h4, h5, h6⟩ := K.s
  obtain ⟨A, c, o1, o2⟩ := K.o
  exact ⟨below_step K.hb hb, (fr.same _ (blk_lt K.m) (fun h => h)).trans K.m, ⟨mb, (fr.same _ (blk_lt h1) (fun h => h)).trans h1, h2, n, D, keepMap h3 (fr.same _ h3.lt (fun h => h)), h4, h5, h6⟩,
    ⟨A, c, (fr.same _ (blk_lt o1) (fun h => h)).trans o1, R_far_lt o2 fr (fun _ _ h => h)⟩, K.g1, K.g2, K.g3, K.ord⟩
theorem info3' : (Try.prog.info? 3).map (fun i => (i.zero, i.size, i.bytes)) = some (some (.int .i64 0), 1, 8) := by kernel_rfl
set_option maxHeartbeats 8000000 in
theorem good_any (M : IsMem S w g st) {bm bs bo : Nat} {l : List Int} (K : Wk w W g bm bs bo st.f st.os l) (x : Int) (hx : 0 ≤ x ∧ x < 18446744073709551616) :
    Calls Try.prog 79 #[.int .u64 x, .pointer (some ⟨bm, 0, none⟩), .pointer (some ⟨bs, 0, none⟩), .pointer (some ⟨bo, 0, none⟩)] W fun e W' =>
      e = .returned (.bool (add1 st.f st.os l x).isSome) ∧ Wk w W' g bm bs bo st.f st.os ((add1 st.f st.os l x).getD l) := by
  have hI := fun W => Pa.num_IsInt.calls x (x % 2 == 1) W (isInt_f hx)
  have hT := fun W => Pa.num_ToPtr.calls x (toP x) W (toP_f hx)
  by_cases h1 : x % 2 = 1
  · have e1 : (x % 2 == 1) = true := beq_iff_eq.2 h1
    rw [e1] at hI
    have ha : add1 st.f st.os l x = some l := if_pos h1
    rw [ha]
    go_enter Try.func79, Try.ntmps79
    go_wp2_with (first | (go_at_call 52; (with_reducible refine (hI _).mono ?_); rintro e w1 ⟨rfl, hd1⟩))
    go_ret
    exact ⟨rfl, K.drawn hd1⟩
  · have e1 : (x % 2 == 1) = false := by simpa using h1
    rw [e1] at hI
    have hr := toP_range x
    by_cases h2 : x / 2 ∈ heads st.f st.os
    · have hP := toP_head M h1 h2
      obtain ⟨i, hi, hai⟩ := mem_heads.1 h2
      have hR := M.head_range h2
      have hlm := M.os_len
      have hol := K.ord.len
      obtain ⟨a, hA⟩ : ∃ a, x / 2 = a := ⟨_, rfl⟩
      rw [hP] at hT
      rw [hA] at hT hai h2 hR
      have hL : ∀ W', Below w.heap.size w W' → Calls Try.prog 34 #[.pointer (some ⟨g, 0, none⟩), .int .i64 a] W' fun e w' => e = .returned (.tuple #[.int .i64 st.os[i].kind, .int .i64 st.os[i].fs.length, .int .i64 st.os[i].tag, .int .i64 0]) ∧ Drawn0 W' w' := fun W' hb => by
        have h := (M.below hb).look i hi
        rw [← hai] at h
        exact h
      have hadd : add1 st.f st.os l x = if a ∈ l then some l else some (l ++ [a]) := by unfold add1; rw [if_neg h1, hA, if_pos h2]
      clear hai hA
      by_cases h3 : a ∈ l
      · have ha : add1 st.f st.os l x = some l := by rw [hadd, if_pos h3]
        rw [ha]
        clear hadd ha
        go_enter Try.func79, Try.ntmps79
        go_wp2_with (first
          | (go_at_call 52; (with_reducible refine (hI _).mono ?_); rintro e w1 ⟨rfl, hd1⟩)
          | (go_at_call 54; (with_reducible refine (hT _).mono ?_); rintro e w2 ⟨rfl, hd2⟩
             have K2 := (K.drawn hd1).drawn hd2
             have hc2 : w2.cell? ⟨bm, 0, none⟩ = some (.pointer (some ⟨g, 0, none⟩)) := (blk_cell K2.m 0).trans rfl)
          | (go_at_call 34; (with_reducible refine (hL _ K2.hb).mono ?_); rintro e w3 ⟨rfl, hd3⟩
             have K3 := K2.drawn hd3
             obtain ⟨mb, s1, s2, n, D, s3, s4, s5, s6⟩ := K3.s
             have hc3 : w3.cell? ⟨bs, 0, none⟩ = some (.map (some mb)) := (blk_cell s1 0).trans rfl)
          | (at_lookup; refine wpList_lookup_own_int _ rfl _ _ 94 rfl 3 3 .i64 (Maps.int_keyed Try.underlying3) Try.underlying94 Try.underlying3 (zero3 _) mb n D rfl s3 (.int .i64 a) (.int .i64 a) rfl (Maps.keyOf_int_mk Try.underlying3 (wf_i64 (by omega))) ?_; intro cc hat hwfc
             obtain rfl : cc = 1 := by
               rw [s6 a, if_pos h3] at hat
               injection hat with hat
               injection hat with _ hat
               exact hat.symm))
        go_ret
        exact ⟨rfl, K3⟩
      · have ha : add1 st.f st.os l x = some (l ++ [a]) := by rw [hadd, if_neg h3]
        rw [ha]
        clear hadd ha
        go_enter Try.func79, Try.ntmps79
        go_wp2_with (first
          | (go_at_call 52; (with_reducible refine (hI _).mono ?_); rintro e w1 ⟨rfl, hd1⟩)
          | (go_at_call 54; (with_reducible refine (hT _).mono ?_); rintro e w2 ⟨rfl, hd2⟩
             have K2 := (K.drawn hd1).drawn hd2
             have hc2 : w2.cell? ⟨bm, 0, none⟩ = some (.pointer (some ⟨g, 0, none⟩)) := (blk_cell K2.m 0).trans rfl)
          | (go_at_call 34; (with_reducible refine (hL _ K2.hb).mono ?_); rintro e w3 ⟨rfl, hd3⟩
             have K3 := K2.drawn hd3
             obtain ⟨mb, s1, s2, n, D, s3, s4, s5, s6⟩ := K3.s
             obtain ⟨A, c, o1, o2⟩ := K3.o
             have hc3 : w3.cell? ⟨bs, 0, none⟩ = some (.map (some mb)) := (blk_cell s1 0).trans rfl
             have hc3b : w3.cell? ⟨bo, 0, none⟩ = some (.slice A l.length c) := (blk_cell o1 0).trans rfl)
          | (at_lookup; refine wpList_lookup_own_int _ rfl _ _ 94 rfl 3 3 .i64 (Maps.int_keyed Try.underlying3) Try.underlying94 Try.underlying3 (zero3 _) mb n D rfl s3 (.int .i64 a) (.int .i64 a) rfl (Maps.keyOf_int_mk Try.underlying3 (wf_i64 (by omega))) ?_; intro cc hat hwfc
             obtain rfl : cc = 0 := by
               rw [s6 a, if_neg h3] at hat
               injection hat with hat
               injection hat with _ hat
               exact hat.symm)
          | (at_mapUpdate; refine wpList_mapUpdate_own _ rfl _ _ _ 94 rfl 3 3 (Maps.int_keyed Try.underlying3) Try.underlying94 _ mb n D rfl s3 (by simp only [maxLen]; omega) (.int .i64 a) (.int .i64 1) (.int .i64 a) rfl rfl (Maps.keyOf_int_mk Try.underlying3 (wf_i64 (by omega))) (.lit (.int .i64 1)) [] (plainElem_int Try.underlying3 (wf_i64 (by omega))) ?_; intro w4 hown4 hg4
             have fr4 : Fr (fun k => k = mb) w3 w4 := Fr.of_grown hg4 (fun k e => by cases e; rfl)
             have o14 : w4.heap[bo]? = some (.cells #[.slice A l.length c] 23 (0, 0)) := (fr4.same _ (blk_lt o1) (fun e => map_ne s3 o1 e.symm)).trans o1
             have o24 := R_far_lt o2 fr4 (fun k hk e => by
               obtain ⟨cs, h⟩ := Kd.R_typed o2 k hk
               exact map_ne s3 h e.symm)
             have hc4 : w4.cell? ⟨bo, 0, none⟩ = some (.slice A l.length c) := (blk_cell o14 0).trans rfl
             have hb4 : Below w.heap.size w w4 := ⟨fr4.low.os.trans K3.hb.os, fr4.low.tape.trans K3.hb.tape, fr4.low.output.trans K3.hb.output, Nat.le_trans K3.hb.size fr4.low.size, fun k hk => (fr4.same k (Nat.lt_of_lt_of_le hk K3.hb.size) (by omega)).trans (K3.hb.block k hk)⟩)
          | ((with_reducible refine gate_builtin (b := .append) (xs := #[.tmp 31, .tmp 33]) rfl ?_); at_builtin; refine Kd.R_append (Kd.int .i64) w.heap.size rfl (.tmp 31) (.tmp 33) 23 3 (.int .i64 0) 8 rfl Try.underlying23 info3' rfl (by decide) (by omega) (.slice A l.length c) l a [.int .i64 a] (fun _ => True) (fun _ => False) rfl rfl rfl (fun _ hk => hk.elim) (fun _ _ => trivial) o24 hb4 hb4.size (by omega) ?_; intro v5 w5 ho5 hb5 hg5 hat5
             obtain ⟨A5, c5, rfl⟩ := Kd.R_slice ho5
             have hlen5 : (l ++ [a]).length = l.length + 1 := by simp
             rw [hlen5] at ho5 ⊢
             have o55 : w5.heap[bo]? = some (.cells #[.slice A l.length c] 23 (0, 0)) := (hg5.block bo (blk_lt o14) (fun e => by
               obtain ⟨cs, h⟩ := Kd.R_typed o24 bo e.symm
               rw [o14] at h
               cases h)).trans o14
             have hc5 : w5.cell? ⟨bo, 0, none⟩ = some (.slice A l.length c) := (blk_cell o55 0).trans rfl
             have hf5 := blk_frozen o55 0))
        go_ret
        exact ⟨rfl, K3.push s1 s2 s3 s4 s5 s6 h3 h2 o1 o2 hown4 hg4 ho5 hg5⟩
    · have hL := fun W' (hb : Below w.heap.size w W') => (M.below hb).look_no (toP x) (by omega) (toP_no M h1 h2)
      have ha : add1 st.f st.os l x = none := by unfold add1; rw [if_neg h1, if_neg h2]
      rw [ha]
      go_enter Try.func79, Try.ntmps79
      go_wp2_with (first
        | (go_at_call 52; (with_reducible refine (hI _).mono ?_); rintro e w1 ⟨rfl, hd1⟩)
        | (go_at_call 54; (with_reducible refine (hT _).mono ?_); rintro e w2 ⟨rfl, hd2⟩
           have K2 := (K.drawn hd1).drawn hd2
           have hc2 : w2.cell? ⟨bm, 0, none⟩ = some (.pointer (some ⟨g, 0, none⟩)) := (blk_cell K2.m 0).trans rfl)
        | (go_at_call 34; (with_reducible refine (hL _ K2.hb).mono ?_); rintro e w3 ⟨rfl, hd3⟩))
      go_ret
      exact ⟨rfl, K2.drawn hd3⟩
end Go.Proofs.Ytjccaojlldkmpaa.Mem
