/- A text has just its words, told at once and one by one, and any words are a text, or none: the walk of the law NumPacks. -/
import Derived.Test.YtljbkonhailamaaPackF
import Derived.Test.YtljbkonhailamaaLent
import Derived.Deep.RegionHeld3
namespace Go.Proofs.Ytljbkonhailamaa.Pp
open Go.RowKit Go.Shelf Go.Proofs.YtljbkonhailamaaW.PrintWords Go.Proofs.YtljbkonhailamaaW.PrintLast Go.Proofs.YtljbkonhailamaaW.PrintMore
open Num (bts byteB wval eachL wordsOf upto word)
open Fa
set_option linter.unusedVariables false
set_option linter.unusedSimpArgs false

theorem known_any (w : World) : Calls Try.prog 19 #[] w fun e w' => e = .returned (.bool true) ∧ Below w.heap.size w w' :=
  Pr.kindlinglaw01_known.calls true w Fa.known_f

theorem below_then {B : Nat} {w w1 w2 : World} (h : Below B w w1) (hB : B ≤ w1.heap.size) (k : Below w1.heap.size w1 w2) : Below B w w2 := h.trans (k.mono hB)
theorem boxed_below {W W' : World} {B : Nat} {t : TypeId} {v : Value} (h : Boxed W B t v) (hb : Below W.heap.size W W') : Boxed W' B t v := (hb.block B h.lt).trans h

theorem nil_func (b : Nat) (W : World) : (binOp .eql 45 (.func (.func 56) #[] #[.pointer (some ⟨b, 0, none⟩)]) .nilFunc).run Try.prog W = .ok (.bool false) W := by
  first
  | rfl
  | kernel_rfl
theorem results_cell {P : Program} {fn : Func} {p : Tmp} {ty : TypeId} (h : fn.results = #[.cell p ty]) (tmps : Array Value) (w : World) (a : Addr) (v : Value) (hp : tmps.getD p undef = .pointer (some a)) (hv : (loadVar ty a).run P w = .ok v w) :
    (results fn tmps).run P w = .ok v w := by
  have hp' : tmps[p]?.getD undef = .pointer (some a) := by simpa using hp
  simp [results, h, hp', asAddr, hv]
theorem load4 (w : World) (a : Addr) (b : Bool) (h : w.cell? a = some (.bool b)) : (loadVar 4 a).run Try.prog w = .ok (.bool b) w := by
  simp [loadVar, h, go_sem]
set_option maxRecDepth 100000 in
set_option maxHeartbeats 4000000 in
theorem packs_much (s : ByteArray) (A : Option Addr) (c : Nat) (l : List Int) (n : Int) (w : World) (h : 4096 < s.size ∨ 1000 < l.length) :
    Calls Try.prog 10 #[.string s, .slice A l.length c, .int .i64 n] w fun e w' => e = .returned (.bool true) ∧ Below w.heap.size w w' := by
  have b6 := Boxed.new w 4 (.bool false)
  have hB0 : Below w.heap.size w (w.alloc (.cells #[.bool false] 4)) := (Below.refl _ w).alloc (Nat.le_refl _) _
  by_cases h1 : 4096 < s.size
  · have d1 : decide ((s.size : Int) > 4096) = true := decide_eq_true (by omega)
    go_enter Try.func10, Try.ntmps10
    go_wp2_with fail
    (with_reducible refine (known_any _).mono ?_)
    rintro e w1 ⟨rfl, hB1⟩
    have b6' := boxed_below b6 (hB1)
    have hc := b6'.cell
    have hf := b6'.frozen
    go_wp2_with fail
    refine bodyPost_ret (results_cell rfl _ _ _ _ rfl (load4 _ _ _ (World.cell?_setCell_same _ _ _ hc))) rfl ⟨rfl, ?_⟩
    exact ((hB0.trans (hB1.mono (by simp))).setCell (p := ⟨w.heap.size, 0, none⟩) (Nat.le_refl _) _)
  · have d1 : decide ((s.size : Int) > 4096) = false := decide_eq_false (by omega)
    have d2 : decide ((l.length : Int) > 1000) = true := decide_eq_true (by omega)
    go_enter Try.func10, Try.ntmps10
    go_wp2_with fail
    (with_reducible refine (known_any _).mono ?_)
    rintro e w1 ⟨rfl, hB1⟩
    have b6' := boxed_below b6 (hB1)
    have hc := b6'.cell
    have hf := b6'.frozen
    go_wp2_with fail
    refine bodyPost_ret (results_cell rfl _ _ _ _ rfl (load4 _ _ _ (World.cell?_setCell_same _ _ _ hc))) rfl ⟨rfl, ?_⟩
    exact ((hB0.trans (hB1.mono (by simp))).setCell (p := ⟨w.heap.size, 0, none⟩) (Nat.le_refl _) _)

attribute [local go_sem] Oper.semAt_some
/-- What comes of the iterator so far. -/
def Told (s : ByteArray) (pre : List (Nat × Int)) : Prop := ∃ k, k ≤ (s.size + 7) / 8 ∧ pre = upto (fun j => (j, word (bts s) j)) k
theorem grown_own {β : Type} (w7 : World) (B : Nat) (row : Option Nat) (hB : w7.heap.size ≤ B) : OwnFrom B (fun (_ : β) W => w7.grownBy W row) := fun _ X Y r hs hg hr =>
  ⟨hg.os.trans hs.os, hg.tape.trans hs.tape, hg.output.trans hs.output, Nat.le_trans hs.size hg.size, fun k hk hne =>
    (hg.block k (Nat.lt_of_lt_of_le hk hs.size) (fun e => by have := (hr _ e.symm).1; omega)).trans (hs.block k hk hne)⟩
theorem grown_then {x y z : World} {row : Option Nat} (h : x.grownBy y row) (k : y.grownBy z row) : x.grownBy z row :=
  ⟨k.os.trans h.os, k.tape.trans h.tape, k.output.trans h.output, Nat.le_trans h.size k.size, fun i hi hne => (k.block i (Nat.lt_of_lt_of_le hi h.size) hne).trans (h.block i hi hne)⟩
theorem PK_get (s : ByteArray) (k : Nat) (hk : k < (s.size + 7) / 8) : rdOf 0 (PK s) (k : Int) = word (bts s) k := by
  have h := words_packR _ (bts s) (Nat.le_refl _)
  rw [Num.bts_length] at h
  unfold PK rdOf
  rw [← h, Int.toNat_natCast]
  simp [List.getD, hk]
/-- What lies while the last line is reckoned. -/
structure Bun (w : World) (B6 Bw Bi D D2 : Nat) (vw vi : Value) (wl il : List Int) (n : Nat) (W : World) : Prop where
  b6 : Boxed W B6 4 (.bool false)
  bw : Boxed W Bw 39 vw
  bi : Boxed W Bi 3 (.int .i64 (n : Int))
  row : Kd.R (Kd.int .u64) 25 W 0 (fun _ => True) vw wl
  lent : Kd.R (Kd.int .u64) 25 W 0 (fun _ => True) vi il
  bel : Below w.heap.size w W
  d1 : W.heap[D]? = some (.deferred (some []))
  d2 : W.heap[D2]? = some (.deferred (some []))
theorem Bun.below {w : World} {B6 Bw Bi D D2 : Nat} {vw vi : Value} {wl il : List Int} {n : Nat} {W W' : World} (h : Bun w B6 Bw Bi D D2 vw vi wl il n W) (hb : Below W.heap.size W W') : Bun w B6 Bw Bi D D2 vw vi wl il n W' :=
  ⟨boxed_below h.b6 hb, boxed_below h.bw hb, boxed_below h.bi hb, Kd.R_below h.row hb, Kd.R_below h.lent hb, h.bel.trans (hb.mono h.bel.size), (hb.block D (Array.getElem?_eq_some_iff.1 h.d1).1).trans h.d1, (hb.block D2 (Array.getElem?_eq_some_iff.1 h.d2).1).trans h.d2⟩
theorem R_cap {α : Type} {d : Kd α} {e base n c : Nat} {ok : Nat → Prop} {w : World} {A : Option Addr} {xs : List α} (h : d.R e w base ok (.slice A n c) xs) : c ≤ maxLen := by
  obtain ⟨inner, -, ho⟩ := Kd.R_own h
  rcases ho with ⟨he, -⟩ | ⟨g, cap, cur, he, -, -, -, hm, -⟩
  · injection he with _ _ he
    rw [he]; exact Nat.zero_le _
  · injection he with _ _ he
    rw [he]; exact hm
theorem two_marks {w W : World} {D D2 : Nat} (b6 : Boxed W w.heap.size 4 (.bool true)) (bel : Below w.heap.size w W) (k1 : W.heap[D]? = some (.deferred (some []))) (k2 : W.heap[D2]? = some (.deferred (some []))) (hne : D ≠ D2)
    (h1 : w.heap.size < D) (h2 : w.heap.size < D2) {tm : Array Value} (hp : tm.getD 6 undef = .pointer (some ⟨w.heap.size, 0, none⟩)) :
    LeavesInM Fence.wide 5 Try.prog Try.f10 tm (fun e w' => e = Ending.returned (Value.bool true) ∧ Below w.heap.size w w') [{ target := .collected D2, args := #[] }, { target := .collected D, args := #[] }] .returning W := by
  have k1' : (W.putObj D2 (.deferred none)).heap[D]? = some (.deferred (some [])) := (World.putObj_heap_other hne).trans k1
  refine ⟨by simp, .inl ⟨_, _, rfl, run_takeDeferred k2, by simp, .inl ⟨_, _, rfl, run_takeDeferred k1', ?_⟩⟩⟩
  have b := ((b6.kept (grownBy_putObj' W D2 (.deferred none)) (fun e => by have := Option.some.inj e; omega)).kept (grownBy_putObj' _ D (.deferred none)) (fun e => by have := Option.some.inj e; omega))
  refine ⟨_, results_cell rfl _ _ ⟨w.heap.size, 0, none⟩ _ hp (load4 _ _ _ b.cell), rfl, ?_⟩
  exact (bel.grown (grownBy_putObj' W D2 (.deferred none)) bel.size (fun k e => by cases e; omega)).grown (grownBy_putObj' _ D (.deferred none)) (by have := bel.size; simp [World.putObj]; omega) (fun k e => by cases e; omega)
set_option maxRecDepth 100000 in
set_option maxHeartbeats 4000000 in
theorem packs_few (s : ByteArray) (A : Option Addr) (c : Nat) (l : List Int) (n : Int) (w : World) (hs : s.size ≤ 4096) (hl : l.length ≤ 1000) (hC : Kd.C (Kd.int .u64) w A l.length l) (hc : l.length ≤ c) (hw : ∀ x ∈ l, u64 x) (hn : i64 n) :
    Calls Try.prog 10 #[.string s, .slice A l.length c, .int .i64 n] w fun e w' => e = .returned (.bool true) ∧ Below w.heap.size w w' := by
  have d1 : decide ((s.size : Int) > 4096) = false := decide_eq_false (by omega)
  have d2 : decide ((l.length : Int) > 1000) = false := decide_eq_false (by omega)
  have b6 := Boxed.new w 4 (.bool false)
  have hB0 : Below w.heap.size w (w.alloc (.cells #[.bool false] 4)) := (Below.refl _ w).alloc (Nat.le_refl _) _
  refine (callsIn_wide (n := 5)).1 (callsIn_of_wp_marks Try.func10 rfl trivial ?_ rfl)
  simp only [Try.ntmps10, List.size_toArray, List.length_cons, List.length_nil, Nat.reduceAdd, Nat.reduceSub, Array.replicate_succ, Array.replicate_zero, List.push_toArray, List.append_toArray, List.nil_append, List.cons_append]
  refine wpIn_wide.2 ?_
  go_wp2_with fail
  -- ref.Pack
  refine (Pk.kindlingref01_Pack.calls (s.size + 1) s (PK s) _ (Fp.pack_f s (by omega) _ (Nat.le_refl _))).mono ?_
  rintro e w1 ⟨vw, rfl, hR1, hB1⟩
  have b6 := boxed_below b6 hB1
  have hB1 := hB0.trans (hB1.mono (by simp))
  have hR1 := Kd.R_lower hR1 (base' := w.heap.size) (by simp)
  obtain ⟨Aw, cw, rfl⟩ := Kd.R_slice hR1
  obtain ⟨vw, hvw⟩ : ∃ vw, vw = Value.slice Aw (PK s).length cw := ⟨_, rfl⟩
  clear hB0
  have hs1 : w.heap.size < w1.heap.size := b6.lt
  have bw := Boxed.new w1 39 (.slice none 0 0)
  have hcw := bw.cell
  have hfw := bw.frozen
  go_wp2_with fail
  rw [← hvw] at hR1 ⊢
  have bw2 := Boxed.new w1 39 vw
  have b62 := b6.alloc (.cells #[vw] 39)
  have hB2 := hB1.alloc (by omega) (.cells #[vw] 39)
  have hR2 := Kd.R_alloc hR1 (.cells #[vw] 39)
  have hs2 : w1.heap.size < (w1.alloc (.cells #[vw] 39)).heap.size := bw2.lt
  clear bw b6 hR1 hcw hfw
  revert bw2 b62 hB2 hR2 hs2
  generalize w1.alloc (.cells #[vw] 39) = w2
  intro bw2 b62 hB2 hR2 hs2
  refine (Lt.lent_any A c l _ (Kd.C_below hC hB2) hc (by omega)).mono ?_
  rintro e w3 ⟨Ai, ci, rfl, hI3, hB3⟩
  have b6 := boxed_below b62 hB3
  have bw := boxed_below bw2 hB3
  have hR := Kd.R_below hR2 hB3
  have hI := Kd.R_lower hI3 (base' := w1.heap.size + 1) (by omega)
  have hB := hB2.trans (hB3.mono (by omega))
  clear b62 bw2 hR2 hI3
  have hs3 : w1.heap.size < w3.heap.size := bw.lt
  clear hB3 hB2 hs2
  go_wp2_with fail
  obtain ⟨hIn, hIc, hIC⟩ := Kd.R_reads' hI
  have hIt := Kd.C_take (m := l.length) hIC (by simp)
  have ht71 : (l ++ [(71 : Int)]).take l.length = l := by simp
  rw [ht71] at hIt
  obtain ⟨⟨u1, u2⟩, hu⟩ : ∃ u, unp l n = u := ⟨_, rfl⟩
  have hf1 := unpack_f l n (by omega) hw hn (16 * l.length + 4) (Nat.le_refl _)
  rw [hu] at hf1
  refine (Pr.num_Unpack.calls (16 * l.length + 4) Ai ci l n u1 u2 _ hIt (by omega) hf1).mono ?_
  rintro e w4 ⟨rfl, hB4⟩
  have b6 := boxed_below b6 hB4
  have bw := boxed_below bw hB4
  have hR := Kd.R_below hR hB4
  have hI := Kd.R_below hI hB4
  have hB := hB.trans (hB4.mono (by omega))
  have hs4 : w3.heap.size ≤ w4.heap.size := hB4.size
  clear hB4 hIt hIC
  go_wp2_with fail
  -- ref.Unpack
  have hf2 := Fp.unpack_f l n (by omega) hw hn (17 * l.length + 6) (Nat.le_refl _)
  rw [hu] at hf2
  refine (Pk.kindlingref01_Unpack.calls (17 * l.length + 6) A c l n u1 u2 _ (Kd.C_below hC hB) hc hf2).mono ?_
  rintro e w5 ⟨rfl, hB5⟩
  have b6 := boxed_below b6 hB5
  have bw := boxed_below bw hB5
  have hR := Kd.R_below hR hB5
  have hI := Kd.R_below hI hB5
  have hB := hB.trans (hB5.mono (by omega))
  have hs5 : w4.heap.size ≤ w5.heap.size := hB5.size
  clear hB5
  go_wp2_with fail
  -- the iterator
  have bi := Boxed.new w5 3 (.int .i64 0)
  have b6 := b6.alloc (.cells #[.int .i64 0] 3)
  have bw := bw.alloc (.cells #[.int .i64 0] 3)
  have hR := Kd.R_alloc hR (.cells #[.int .i64 0] 3)
  have hI := Kd.R_alloc hI (.cells #[.int .i64 0] 3)
  have hB := hB.alloc (by omega) (.cells #[.int .i64 0] 3)
  have hs6 : w5.heap.size < (w5.alloc (.cells #[.int .i64 0] 3)).heap.size := bi.lt
  revert bi b6 bw hR hI hB hs6
  generalize w5.alloc (.cells #[.int .i64 0] 3) = w6
  intro bi b6 bw hR hI hB hs6
  refine (callsIn_wide (n := 5)).1 ((Num.each_in Fence.wide 5 trivial rfl s _).mono ?_)
  rintro e w7 ⟨rfl, rfl⟩
  have bs := Boxed.new w6 9 (.string s)
  have bi := bi.alloc (.cells #[.string s] 9)
  have b6 := b6.alloc (.cells #[.string s] 9)
  have bw := bw.alloc (.cells #[.string s] 9)
  have hR := Kd.R_alloc hR (.cells #[.string s] 9)
  have hI := Kd.R_alloc hI (.cells #[.string s] 9)
  have hB := hB.alloc (by omega) (.cells #[.string s] 9)
  have hs7 : w6.heap.size < (w6.alloc (.cells #[.string s] 9)).heap.size := bs.lt
  revert bi b6 bw hR hI hB bs hs7
  generalize w6.alloc (.cells #[.string s] 9) = w7
  intro bs bi b6 bw hR hI hB hs7
  have hnil := nil_func w6.heap.size w7
  go_wp2_with fail
  refine (wpIn_wide (n := 5)).1 ?_
  have hs0 : w.heap.size < w7.heap.size := b6.lt
  have hRb := Kd.R_types hR bi (by intro q hq; simp [Kd.int, Kd.scalar] at hq; omega)
  refine' wpIn_rangeFunc_ownG (F := Fence.wide) (n := 5) rfl (by omega) (gf := 56) (lb := #[.pointer (some ⟨w6.heap.size, 0, none⟩)]) rfl trivial (enters_of Try.func56 (by kernel_rfl) rfl)
    (Num.each_stops Fence.wide (5 - 1) trivial rfl (by omega) w6.heap.size s (by omega) _ hs7 bs.cell) (fun h k => h.trans k) (Num.kb_b hs7) (Below.refl _ _) (fun _ => rfl)
    (fun pre W => (w7.grownBy W (some w5.heap.size) ∧ Boxed W w5.heap.size 3 (.int .i64 (pre.length : Int))) ∧ Told s pre)
    (fun _ pre _ => ¬ Told s pre)
    (OwnFrom.and (OwnFrom.and (grown_own _ _ _ (Nat.le_refl _)) (Own.from (boxed_own _ _ (fun pre : List (Nat × Int) => Value.int .i64 (pre.length : Int))) _)) (ownFrom_pure _ _))
    (fun _ => ownFrom_pure _ _)
    ⟨⟨⟨rfl, rfl, rfl, Nat.le_refl _, fun _ _ _ => rfl⟩, bi⟩, 0, Nat.zero_le _, rfl⟩ _ ?assign ?body ?done ?stop
  case assign =>
    intro l x W K hK
    gi_wp2
    exact hK
  case body =>
    rintro l' pre x W ⟨⟨hg, bi'⟩, ⟨k, hk, rfl⟩⟩ hlt
    rw [Num.upto_length] at bi' hlt
    obtain ⟨x1, x2⟩ := x
    have bw' := bw.kept hg (fun e => by have := Option.some.inj e; omega)
    have b6' := b6.kept hg (fun e => by have := Option.some.inj e; omega)
    have hR' := Kd.R_grown hRb hg (fun j hj e => hj.2 (Option.some.inj e))
    have hPl := PK_length s
    obtain ⟨gw, cw', ew, -, hgw, -⟩ := Kd.R_form hR' (by omega)
    rw [ew] at bw' hR'
    have hx := (Kd.R_celln 0 hR' (k : Int) (by omega) (by omega)).1
    rw [PK_get s k hlt] at hx
    simp only [Int.toNat_natCast] at hx
    have hci := bi'.cell
    have hfi := bi'.frozen
    have hcw' := bw'.cell
    have hc6 := b6'.cell
    have hf6 := b6'.frozen
    have hlen : decide ((k : Int) ≥ ((PK s).length : Int)) = false := decide_eq_false (by omega)
    have hk0 : decide (0 ≤ (k : Int)) = true := decide_eq_true (by omega)
    have hk1 : decide ((k : Int) < ((PK s).length : Int)) = true := decide_eq_true (by omega)
    have hB7 : w7.heap.size ≤ W.heap.size := hg.size
    have hret : ∀ (pr : List (Nat × Int)), pr = upto (fun j => (j, word (bts s) j)) k ++ [(x1, x2)] → (x1, x2) ≠ (k, word (bts s) k) → ¬ Told s pr := by
      rintro pr rfl hne ⟨k', hk', e⟩
      have hl := congrArg List.length e
      rw [List.length_append, Num.upto_length, Num.upto_length, List.length_singleton] at hl
      obtain rfl : k' = k + 1 := by omega
      rw [Num.upto_succ] at e
      exact hne (by simpa using e)
    by_cases hx1 : x1 = k
    · subst hx1
      have t1 : ((x1 : Int) != (x1 : Int)) = false := by simp
      by_cases hx2 : word (bts s) x1 = x2
      · subst hx2
        have t2 : (word (bts s) x1 != word (bts s) x1) = false := by simp
        clear hret hR' hRb hI hC
        gi_wp2
        have hgs := grownBy_setCell' W w5.heap.size (.int .i64 ((x1 : Int) + 1))
        refine ⟨KeepsFrom.of_grownBy hgs (fun j e => by cases e; omega), Num.KB.of_grownBy hgs (by omega) (fun e => by have := Option.some.inj e; omega), ⟨grown_then hg hgs, ?_⟩, x1 + 1, by omega, (Num.upto_succ _ _).symm⟩
        rw [List.length_append, Num.upto_length, List.length_singleton]
        exact bi'.set _
      · have t2 : (word (bts s) x1 != x2) = true := bne_iff_ne.2 hx2
        clear hR' hRb hI hC
        gi_wp2
        have hgs := grownBy_setCell' W w.heap.size (.bool false)
        exact ⟨KeepsFrom.of_grownBy hgs (fun j e => by cases e; omega), hret _ rfl (fun e => hx2 (congrArg Prod.snd e).symm)⟩
    · have t1 : ((x1 : Int) != (k : Int)) = true := bne_iff_ne.2 (by omega)
      clear hR' hRb hI hC
      gi_wp2
      have hgs := grownBy_setCell' W w.heap.size (.bool false)
      exact ⟨KeepsFrom.of_grownBy hgs (fun j e => by cases e; omega), hret _ rfl (fun e => hx1 (congrArg Prod.fst e))⟩
  case done =>
    rintro D ys W hD rfl ⟨⟨hg, bi'⟩, -⟩ hK
    have hyl : (eachL s).length = (s.size + 7) / 8 := Num.upto_length _ _
    rw [hyl] at bi'
    have bs' := bs.kept hg (fun e => by have := Option.some.inj e; omega)
    have hs8 : w7.heap.size ≤ W.heap.size := hg.size
    have hRw := Kd.R_mono (Kd.R_grown hRb hg (fun j hj e => hj.2 (Option.some.inj e))) (fun _ _ => trivial) (ok' := fun _ => True)
    have hIw := Kd.R_mono (Kd.R_grown (Kd.R_types hI bi (by intro q hq; simp [Kd.int, Kd.scalar] at hq; omega)) hg (fun j hj e => hj.2 (Option.some.inj e))) (fun _ _ => trivial) (ok' := fun _ => True)
    have hBw := hB.grown hg (by omega) (fun k e => by cases e; omega)
    clear hRb
    go_wp2_with fail
    refine (wpIn_wide (n := 5)).1 ?_
    refine' wpIn_rangeFunc_ownG (F := Fence.wide) (n := 5) rfl (by omega) (gf := 56) (lb := #[.pointer (some ⟨w6.heap.size, 0, none⟩)]) rfl trivial (enters_of Try.func56 (by kernel_rfl) rfl)
      (Num.each_stops Fence.wide (5 - 1) trivial rfl (by omega) w6.heap.size s (by omega) W (by omega) bs'.cell) (fun h k => h.trans k) (Num.kb_b (by omega)) (Below.refl _ _) (fun _ => rfl)
      (fun pre W' => W.grownBy W' none) (fun c pre W' => c = .exit 2 ∧ W.grownBy W' none) (grown_own _ _ _ (Nat.le_refl _)) (fun _ => OwnFrom.and (ownFrom_pure _ _) (grown_own _ _ _ (Nat.le_refl _)))
      ⟨rfl, rfl, rfl, Nat.le_refl _, fun _ _ _ => rfl⟩ _ ?assign2 ?body2 ?done2 ?stop2
    case assign2 =>
      intro l x W K hK
      gi_wp2
      exact hK
    case body2 =>
      rintro l' pre x W' hg2 hlt
      gi_wp2
      exact ⟨KeepsFrom.refl _ _, rfl, hg2⟩
    case' done2 =>
      rintro D2 ys2 W2 hD2 _ hg2 hK2
      go_wp2_with fail
    case' stop2 =>
      rintro D2 c2 pre2 W2 hD2 _ ⟨rfl, hg2⟩ hK2
      gi_wp2
    all_goals (
      have bun : Bun w w.heap.size w1.heap.size w5.heap.size D D2 (.slice Aw (PK s).length cw) (.slice Ai (l.length + 1) ci) (PK s) (l ++ [71]) (PK s).length W2 := by
        have hgN := hg2
        rw [← hvw]
        refine ⟨?_, ?_, ?_, ?_, ?_, ?_, ?_, hK2⟩
        · exact (b6.kept hg (fun e => by have := Option.some.inj e; omega)).kept hg2 (by simp)
        · exact (bw.kept hg (fun e => by have := Option.some.inj e; omega)).kept hg2 (by simp)
        · rw [PK_length]; exact bi'.kept hg2 (by simp)
        · exact Kd.R_lower (Kd.R_grown hRw hg2 (fun _ _ => by simp)) (Nat.zero_le _)
        · exact Kd.R_lower (Kd.R_grown hIw hg2 (fun _ _ => by simp)) (Nat.zero_le _)
        · exact hBw.grown hg2 (by omega) (fun k e => by cases e)
        · exact (hg2.block D (Array.getElem?_eq_some_iff.1 hK).1 (by simp)).trans hK
      have hKlt := (Array.getElem?_eq_some_iff.1 hK).1
      clear b6 bw bi hR hI hB bs hnil hIw hRw hBw bs' bi' hg hg2 hK hK2
      have hcm := R_cap bun.lent
      have hpf : Pr.num_Pack.f s = some (PK s) := pack_f (by omega)
      have hsf := same_f (PK s) (PK s) (by rw [PK_length]; omega) ((PK s).length + 1) (Nat.le_refl _)
      rw [decide_eq_true rfl] at hsf
      have hlf := same_f l l (by omega) (l.length + 1) (Nat.le_refl _)
      rw [decide_eq_true rfl] at hlf
      have hne1 : w1.heap.size ≠ w.heap.size := by omega
      have hne2 : w5.heap.size ≠ w.heap.size := by omega
      have hDD : D ≠ D2 := by omega
      try go_wp2_with fail
      go_region_held3 (fun W' => W'.cell? ⟨w1.heap.size, 0, none⟩ = some (.slice Aw (PK s).length cw) ∧ W'.cell? ⟨w5.heap.size, 0, none⟩ = some (.int .i64 ((PK s).length : Int)))
        (first | exact ⟨bun.bw.cell, bun.bi.cell⟩ | exact ⟨(bun.bw.other hne1 _).cell, (bun.bi.other hne2 _).cell⟩)
        (first
          | (go_at_call 48; refine (Pr.num_Pack.calls s (PK s) _ hpf).mono ?_; rintro e w' ⟨v, rfl, hRp, hb⟩; have bun := bun.below ⟨hb.os, hb.tape, hb.output, hb.size, hb.block⟩; obtain ⟨Ap, cp, rfl⟩ := Kd.R_slice hRp; clear hb)
          | (go_at_call 47; refine (Pr.kindlingref01_SameWords.calls ((PK s).length + 1) _ _ (PK s) _ _ (PK s) true _ (Kd.R_reads' hRp).2.2 (Kd.R_reads' hRp).2.1 (Kd.R_reads' bun.row).2.2 (Kd.R_reads' bun.row).2.1 hsf).mono ?_; rintro e w' ⟨rfl, hd⟩; have bun := bun.below hd.below; clear hd)
          | (go_at_call 49; refine (Lt.kept_any Ai ci l A c _ (by have := (Kd.R_reads' bun.lent).2.2; rw [List.length_append] at this; exact this) (by have := (Kd.R_reads' bun.lent).2.1; omega) (Kd.C_below hC bun.bel) hc hcm (l.length + 1) hlf (by omega)).mono ?_; rintro e w' ⟨rfl, hd⟩; have bun := bun.below hd.below; clear hd)
          | (go_at_call 19; refine (known_any _).mono ?_; rintro e w' ⟨rfl, hb⟩; have bun := bun.below hb; have hc6 := bun.b6.cell; have hf6 := bun.b6.frozen; clear hb))
      go_wp2_with fail
      have b6' := bun.b6.set (.bool true)
      have bel' := bun.bel.setCell (p := ⟨w.heap.size, 0, none⟩) (Nat.le_refl _) (.bool true)
      have k1 := (Below.heap_setCell _ ⟨w.heap.size, 0, none⟩ (.bool true) D (show D ≠ w.heap.size by omega)).trans bun.d1
      have k2 := (Below.heap_setCell _ ⟨w.heap.size, 0, none⟩ (.bool true) D2 (show D2 ≠ w.heap.size by omega)).trans bun.d2
      exact two_marks b6' bel' k1 k2 hDD (by omega) (by omega) rfl)
  case stop =>
    rintro D c pre W _ h1 h2 _
    exact (h2 h1).elim

/-- The law's walk, whatever the input. -/
theorem packs_walk (a0 : ByteArray) (a1 : Option Addr) (len1 cap1 : Nat) (z1 : List Int) (a2 : Int) (w : World) (w0 : a0.size ≤ 140737488351232)
    (w1 : (a1 = none ∧ len1 = 0 ∧ cap1 = 0 ∧ z1 = []) ∨ ∃ x, a1 = some x ∧ len1 ≤ cap1 ∧ cap1 ≤ maxLen ∧ z1.length = cap1 ∧ (∀ i, i < z1.length → w.cell? (x.add i) = some (.int .u64 (z1.getD i 0))) ∧ ∀ n ∈ z1, (Lit.int .u64 n).wf = true) (y1 : len1 * 8 ≤ 140737488351232)
    (w2 : (Lit.int .i64 a2).wf = true) :
    Calls Try.prog 10 #[.string a0, .slice a1 len1 cap1, .int .i64 a2] w fun e w' => e = .returned (.bool true) ∧ Below w.heap.size w w' := by
  obtain ⟨l1, rfl, hr1, hm1, hw1, hc1⟩ := ReadsInt.ofRowC w1
  by_cases h : 4096 < a0.size ∨ 1000 < l1.length
  · exact packs_much a0 a1 cap1 l1 a2 w h
  · have h1 : a0.size ≤ 4096 := by omega
    have h2 : l1.length ≤ 1000 := by omega
    exact packs_few a0 a1 cap1 l1 a2 w h1 h2 (Kd.C_of_reads (d := (0 : Int)) (h1 := fun _ => rfl) hr1) hc1 (fun x hx => wfu (hw1 x hx)) (wfi w2)
end Go.Proofs.Ytljbkonhailamaa.Pp
