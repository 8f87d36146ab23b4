/- The law GcTwice, walked. -/
import Derived.Test.YtjccaojlldkmpaaKb
namespace Go.Proofs.Ytjccaojlldkmpaa.Mem
open Go.RowKit Go.Proofs.YtjccaojlldkmpaaW.PrintWords Go.Proofs.YtjccaojlldkmpaaW.PrintLast Go.Proofs.YtjccaojlldkmpaaW.PrintMore
open Hf (rightB hdr headOf partsOf)
open Pa (S71 k71 z71 rd_T71 at_T71)
open Open4 (i64 wf71)
open Rg
set_option linter.unusedSimpArgs false
set_option linter.unusedVariables false
set_option maxRecDepth 100000
section plain
variable {f f1 f2 : Int} {os : List O} {L : List Int}
theorem map_na_heads (hL : Ord f os L) : L.map (na f1 f os L) = heads f1 (col f1 f os L) := by
  apply List.ext_getElem
  · rw [List.length_map, heads_length, col_len]
  · intro i h1 h2
    have hi : i < L.length := by simpa using h1
    rw [List.getElem_map, na_pos (ex := []) hL i hi, List.append_nil]
    have := heads_get f1 (col f1 f os L) i (by rw [col_len]; exact hi)
    rw [List.getElem?_eq_getElem h2] at this
    exact (Option.some.inj this).symm
theorem heads_obAt : (heads f os).map (obAt f os) = os := by
  apply List.ext_getElem
  · rw [List.length_map, heads_length]
  · intro i h1 h2
    have hl : i < (heads f os).length := by rw [heads_length]; exact h2
    have hg := heads_get f os i h2
    rw [List.getElem?_eq_getElem hl] at hg
    rw [List.getElem_map, Option.some.inj hg, obAt_at f os i h2]
theorem na_heads (i : Nat) (hi : i < os.length) : na f2 f os (heads f os) (f + (pos os i : Int)) = f2 + (pos os i : Int) := by
  unfold na
  rw [heads_idx f os i hi, heads_obAt]
theorem cw_heads {x : Int} (hx : Good (heads f os) x) : (x % 2 = 1 ∧ cw f2 f os (heads f os) x = x) ∨ (∃ i, i < os.length ∧ x = 2 * (f + (pos os i : Int)) ∧ cw f2 f os (heads f os) x = 2 * (f2 + (pos os i : Int))) := by
  by_cases h1 : x % 2 = 1
  · exact .inl ⟨h1, cw_odd h1⟩
  · obtain ⟨i, hi, e⟩ := mem_heads.1 (hx.resolve_left h1)
    refine .inr ⟨i, hi, by omega, ?_⟩
    rw [cw_even h1, e, na_heads i hi]
theorem flat_heads : (flat ((heads f os).map (obAt f os))).length = (flat os).length := by rw [heads_obAt]
end plain
variable {S : Nat → Prop} {w W W' w' : World} {g n B : Nat} {st : St}
theorem results_cell1 {P : Program} {fn : Func} {p : Tmp} {ty : TypeId} (h : fn.results = #[.cell p ty]) (tmps : Array Value) (w : World) (a : Addr) (v : Value) (hp : tmps.getD p undef = .pointer (some a)) (hv : (loadVar ty a).run P w = .ok v w) :
    (results fn tmps).run P w = .ok v w := by
  have hp' : tmps[p]?.getD undef = .pointer (some a) := by simpa using hp
  simp [results, h, hp', asAddr, hv]
theorem load4b (w : World) (a : Addr) (b : Bool) (h : w.cell? a = some (.bool b)) : (loadVar 4 a).run Try.prog w = .ok (.bool b) w := by
  simp [loadVar, h, go_sem]
/-- A box with one cell. -/
def Bx (W : World) (g t : Nat) (v : Value) : Prop := W.heap[g]? = some (.cells #[v] t (0, 0))
theorem Bx.new (W : World) (t : Nat) (v : Value) : Bx (W.alloc (.cells #[v] t)) W.heap.size t v := blk_new W _
theorem Bx.cell {t : Nat} {v : Value} (h : Bx W g t v) : W.cell? ⟨g, 0, none⟩ = some v := (blk_cell h 0).trans rfl
theorem Bx.frozen {t : Nat} {v : Value} (h : Bx W g t v) : W.frozen? ⟨g, 0, none⟩ = false := blk_frozen h 0
theorem Bx.below {t : Nat} {v : Value} (h : Bx W g t v) (hb : Below W.heap.size W W') : Bx W' g t v := blk_below h hb
theorem Bx.fr {t : Nat} {v : Value} {T : Nat → Prop} (h : Bx W g t v) (fr : Fr T W W') (hT : ¬ T g) : Bx W' g t v := (fr.same g (blk_lt h) hT).trans h
theorem Bx.lt {t : Nat} {v : Value} (h : Bx W g t v) : g < W.heap.size := blk_lt h
theorem q_of {P : Program} {f : FuncId} {args : Array Value} {w : World} {n : Nat} {v : Value} (h : Calls P f args (w.drewN n) fun e w' => e = .returned v ∧ Drawn0 (w.drewN n) w') :
    Calls P f args (w.drewN n) fun e w'' => e = .returned v ∧ ∃ m, w'' = w.drewN m := Calls.quiet_of (h.mono fun _ _ ⟨he, hd⟩ => ⟨he, hd.out⟩)
theorem region_quiet_in {P : Program} {lp n : Nat} {l : List Oper} {Q : Exit → Act → World → Prop} {id : Nat} {a : Act} {w : World} (hm : P.follows .mixedOrders = true) (hd : noDefer l.toArray = true) (hno : ¬ LetsOut Q) (hB : Region.lexB .any l.toArray = true)
    (h : wpQuiet P l.toArray (fun w' => ∃ n, w' = w.drewN n) (fun a' => ∀ w', (∃ n, w' = w.drewN n) → Q .normal a' w') l a) : (Code.region id l.toArray true).wpIn (Fence.wide.inRound lp) n P Q a w := by
  refine wpIn_region_any hm (any_in hd hno _ _ _ _ ?_)
  simp only [Region.lexB, Bool.and_eq_true] at hB
  refine wpAny_of_quiet (C := fun w' => ∃ n, w' = w.drewN n) (Q := fun a' => ∀ w', (∃ n, w' = w.drewN n) → Q .normal a' w') (fun _ w' hw' h => h w' hw') _ _ _ _ ⟨1, rfl⟩ ?_
  have := wpAnyQ_lex (C := fun w' => ∃ n, w' = w.drewN n) (md := .any) hB.1 l.toArray.toList 0 (Array.replicate l.toArray.size false) a (by simp) (by simpa using hB.2) (by simpa using h)
  simpa using this
theorem d0 (w : World) (n : Nat) : Drawn0 w (w.drewN n) := ⟨n, rfl⟩
attribute [local go_sem] Oper.semAt_some
set_option maxHeartbeats 8000000 in
theorem twice_any (A0 : Option Addr) (c0 : Nat) (l0 : List S71) (A1 : Option Addr) (c1 : Nat) (r1 : List Int) (w : World) (h0 : l0.length ≤ c0) (hC0 : Kd.C k71 w A0 l0.length l0) (hw : ∀ o ∈ l0, wf71 o)
    (hC1 : Kd.C (Kd.int .i64) w A1 r1.length r1) (h1 : r1.length ≤ c1) :
    Calls Try.prog 13 #[.slice A0 l0.length c0, .slice A1 r1.length c1] w fun e w' => e = .returned (.bool true) ∧ Below w.heap.size w w' := by
  have hu3 := Try.underlying3
  obtain ⟨m, l, hHf, hl40, hfine⟩ := heap_f l0 hw
  have hG := fine_gl l hl40 hfine
  obtain ⟨xs, hxf, hx50, hxu⟩ := words_f l hl40 hfine r1
  have hadr := adr_le l hfine
  obtain ⟨N, hN⟩ : ∃ N : Int, 64 + (adr l l.length : Int) = N := ⟨_, rfl⟩
  rw [hN] at hHf hG
  have hB0 : Below w.heap.size w (w.alloc (.cells #[.bool false] 4)) := below_alloc (Below.refl _ w) _
  have b4 := Bx.new w 4 (.bool false)
  have hH := Pa.kindlingref04_Heap.calls m A0 c0 l0 l N (w.alloc (.cells #[.bool false] 4)) (Kd.C_below hC0 hB0) h0 hHf
  have hNN := Aside0.mk hN
  clear hN
  refine (callsIn_wide (n := 5)).1 (callsIn_of_wp_marks Try.func13 rfl trivial ?_ rfl)
  simp only [Try.ntmps13, List.size_toArray, List.length_cons, List.length_nil, Nat.reduceAdd, Nat.reduceSub, Array.replicate_succ, Array.replicate_zero, List.push_toArray, List.append_toArray, List.nil_append, List.cons_append]
  refine wpIn_wide.2 ?_
  go_wp2_with (first
    | (go_at_call 14; (with_reducible refine Calls.mono hH ?_); clear hH; rintro e w2 ⟨v2, rfl, hS2, hb2⟩
       obtain ⟨A, c, rfl, hc, hC⟩ := Kd.S_reads hS2
       clear hS2
       have hb6 := below_alloc (Below.refl _ w2) (.cells #[.int .i64 N] 3)
       replace b4 := (b4.below hb2).below hb6
       have b6 := Bx.new w2 3 (.int .i64 N)
       have hb2w := below_step (below_step hB0 hb2) hb6
       have hC' := Kd.C_below hC hb6
       have hMd := made_any (w := w2.alloc (.cells #[.int .i64 N] 3)) (wvOf l) A c l N hC' hc hG)
    | (go_at_call 15; (with_reducible refine hMd.mono ?_); clear hMd; rintro e w5 ⟨g, rfl, M5⟩
       have hB5 := M5.1
       have P5 := M5.2.bound
       clear M5
       have hb7 := below_alloc (Below.refl _ w5) (.cells #[.pointer (some ⟨g, 0, none⟩)] 26)
       replace b4 := (b4.below hB5).below hb7
       replace b6 := (b6.below hB5).below hb7
       have b7 := Bx.new w5 26 (.pointer (some ⟨g, 0, none⟩))
       have hb5w := below_step (below_step hb2w hB5) hb7
       have c6 := b6.cell
       have c7 := b7.cell
       have hP := P5.below hb7
       have hCW := Kd.C_below (Kd.C_below hC' hB5) hb7
       have hC1W := Kd.C_below hC1 hb5w))
  have hfl0 : (flat (full (wvOf l) l)).length = adr l l.length := flat_adr (sto_lens _ _ _ _)
  obtain ⟨st, hst⟩ : ∃ st : St, (⟨N, 0, full (wvOf l) l, [], .map []⟩ : St) = st := ⟨_, rfl⟩
  have hstz : st.size = N ∧ st.half = 0 ∧ (flat st.os).length = adr l l.length := by rw [← hst]; exact ⟨rfl, rfl, hfl0⟩
  rw [hst] at hP
  have hs5 := hb7.size
  rw [World.size_alloc] at hs5
  have hw2 := hb2.size
  rw [World.size_alloc] at hw2
  have hw25 := hB5.size
  rw [World.size_alloc] at hw25
  have hw5 : (w5.alloc (.cells #[.pointer (some ⟨g, 0, none⟩)] 26)).heap.size = w5.heap.size + 1 := World.size_alloc _ _
  generalize hS0e : (fun k => (w2.alloc (.cells #[.int .i64 N] 3)).heap.size ≤ k ∧ k < w5.heap.size) = S0 at hP
  have hS0 : ∀ k, S0 k → w2.heap.size < k ∧ k < w5.heap.size := by
    rw [← hS0e]
    rintro k ⟨h1, h2⟩
    rw [World.size_alloc] at h1
    exact ⟨by omega, h2⟩
  clear hS0e
  generalize hW4 : (w5.alloc (.cells #[.pointer (some ⟨g, 0, none⟩)] 26)) = W4 at *
  clear hW4
  have hd1 : Drawn0 W4 W4.drew := ⟨1, rfl⟩
  have k7 := (b7.below hd1.below).cell
  have hWa := Pa.kindlinglaw04_words.calls 200 A c l A1 c1 r1 xs W4.drew (Kd.C_below hCW hd1.below) hc (Kd.C_below hC1W hd1.below) h1 hxf
  have b4d := b4.below hd1.below
  have b6d := b6.below hd1.below
  have b7d := b7.below hd1.below
  have hPd := hP.below hd1.below
  have hb5d := below_step hb5w hd1.below
  have hsz : W4.drew.heap.size = w5.heap.size + 1 := hw5
  clear hG hxf hHf hfine hC0 hC1 hw P5 hC hfl0 hB5 hb7 hC' hCW hC1W hB0 hb2 hb6 hb2w hb5w hw5 hs5 hst
  cases hb : walkP st.f st.os xs with
  | mk L ok =>
  cases ok with
  | false =>
    go_region_held3 (fun W' => W'.cell? ⟨w5.heap.size, 0, none⟩ = some (.pointer (some ⟨g, 0, none⟩)))
      (first | (with_reducible exact k7))
      (first
        | (go_at_call 17; (with_reducible refine hWa.mono ?_); clear hWa; rintro e w6 ⟨va, rfl, hRa, hb6w⟩
           obtain ⟨Aa, ca, rfl⟩ := Kd.R_slice hRa
           have hCa := (Kd.R_reads' hRa).2.2
           have hP6 := hPd.below hb6w
           have hCo := collect_no hP6 Aa ca xs hCa hxu (by omega) (by rw [hb])
           have k7 := (b7d.below hb6w).cell)
        | (go_at_call 19; (with_reducible refine hCo.mono ?_); clear hCo; rintro e w8 ⟨rfl, hb8⟩
           have k7 := ((b7d.below hb6w).below hb8).cell))
    have b7e := (b7d.below hb6w).below hb8
    have b4e := (b4d.below hb6w).below hb8
    have hb8w := below_step (below_step hb5d hb6w) hb8
    have hHf : Calls Try.prog 30 #[.pointer (some ⟨g, 0, none⟩)] w8 fun e w' => e = .returned (.int .i64 0) ∧ w' = w8 := by
      have h := (hP6.below hb8).half
      rw [hstz.2.1] at h
      exact h
    clear hb hstz
    go_wp2_with (first
      | (go_at_call 30; (with_reducible refine hHf.mono ?_); rintro e w9 ⟨rfl, rfl⟩)
      | (go_at_call 24; (with_reducible refine (known_any _).mono ?_); rintro e w10 ⟨rfl, hb10⟩
         replace b4e := b4e.below hb10
         have c4 := b4e.cell
         have f4 := b4e.frozen
         have hb10w := below_step hb8w hb10))
    have b4f : Bx (w10.setCell ⟨w.heap.size, 0, none⟩ (.bool true)) w.heap.size 4 (.bool true) := blk_put b4e 0 _ rfl
    exact ⟨_, results_cell1 rfl _ _ ⟨w.heap.size, 0, none⟩ _ rfl (load4b _ _ true b4f.cell), rfl, below_set hb10w (Nat.le_refl _)⟩
  | true =>
    have hOL : Ord st.f st.os L := by have := Ord.walkP st.f st.os xs; rw [hb] at this; exact this
    have hNo := hNN.out
    have hf0 : st.f = 1 := by unfold St.f; rw [hstz.1, hstz.2.1]; omega
    have hf1 : st.f2 = 1 + N := by unfold St.f2; rw [hstz.1, hstz.2.1]; omega
    have hof := ord_fit hOL
    rw [hstz.2.2] at hof
    have hcu : ∀ x ∈ xs.map (cw st.f2 st.f st.os L), 0 ≤ x ∧ x < 18446744073709551616 := by
      intro x hx
      obtain ⟨y, hy, rfl⟩ := List.mem_map.1 hx
      have hyu := hxu y hy
      unfold cw
      split
      · exact hyu
      · have h6 : pos (L.map (obAt st.f st.os)) (L.idxOf (y / 2)) ≤ (flat (L.map (obAt st.f st.os))).length := pos_mono _ _ (by rw [List.length_map]; exact List.idxOf_le_length)
        rw [hf1]
        omega
    have hwi := walk_iso (f1 := st.f2) (ex := []) hb
    rw [List.append_nil, map_na_heads hOL] at hwi
    obtain ⟨hSh1, hGd1⟩ := walk_shut hwi
    go_region_held3 (fun W' => W'.cell? ⟨w5.heap.size, 0, none⟩ = some (.pointer (some ⟨g, 0, none⟩)))
      (first | (with_reducible exact k7))
      (first
        | (go_at_call 17; (with_reducible refine hWa.mono ?_); clear hWa; rintro e w6 ⟨va, rfl, hRa, hb6w⟩
           obtain ⟨Aa, ca, rfl⟩ := Kd.R_slice hRa
           have hCa := (Kd.R_reads' hRa).2.2
           have hbase := Kd.R_base hRa
           have hrlt := Kd.R_lt hRa
           have hs6 := hb6w.size
           have hCo := collect_any (hPd.below hb6w) (fun k h => by have := hS0 k h; omega) Aa ca xs hCa hxu (by omega) (fun ad h => by
             subst h
             have h1 := hbase ad.block (by simp [Value.ownBlock])
             have h2 := hrlt ad.block (by simp [Value.ownBlock])
             exact ⟨fun h3 => by have := hS0 _ h3; omega, by omega⟩) hb
           have k7 := (b7d.below hb6w).cell)
        | (go_at_call 19; (with_reducible refine hCo.mono ?_); clear hCo; unfold Collected; rintro e w15 ⟨S15, B15, d15, D15, rfl, M15, hu15, hl15, hn15, ho15, hf15⟩
           have k7 := ((b7d.below hb6w).fr hf15 (fun h => by have := hS0 _ h; omega)).cell))
    replace M15 : IsMem S15 w15 g (cst st (col st.f2 st.f st.os L) D15) := M15
    have hC15 := (Kd.R_reads' ho15).2.2
    have hxl1 : (xs.map (cw st.f2 st.f st.os L)).length = xs.length := List.length_map _
    have hltB : ∀ ad, B15 = some ad → ¬ S15 ad.block ∧ ad.block < w15.heap.size := fun ad h => ⟨hn15 ad.block (by rw [h]; rfl), Kd.R_lt ho15 ad.block (by rw [h]; rfl)⟩
    have b4e := (b4d.below hb6w).fr hf15 (fun h => by have := hS0 _ h; omega)
    have b6e := (b6d.below hb6w).fr hf15 (fun h => by have := hS0 _ h; omega)
    have b7e := (b7d.below hb6w).fr hf15 (fun h => by have := hS0 _ h; omega)
    have hb15w := below_fr (below_step hb5d hb6w) hf15 (fun k h => by have := hS0 k h; omega)
    have hs15 := hf15.low.size
    have hU15 : ∀ k, S15 k → w2.heap.size < k ∧ k ≠ w5.heap.size := fun k h => by
      rcases hu15 k h with h | h
      · have := hS0 k h
        omega
      · omega
    have hfl1 := col_flat st.f2 st.f st.os L
    obtain ⟨os1, hos1⟩ : ∃ os1, col st.f2 st.f st.os L = os1 := ⟨_, rfl⟩
    obtain ⟨xs1, hxs1⟩ : ∃ xs1, xs.map (cw st.f2 st.f st.os L) = xs1 := ⟨_, rfl⟩
    rw [hos1] at M15 hfl1 hwi hSh1 hGd1
    rw [hxs1] at hC15 hxl1 hwi hcu hGd1
    rw [hf1] at hwi hSh1 hGd1
    obtain ⟨fl, hfl⟩ : ∃ fl, (flat os1).length = fl := ⟨_, rfl⟩
    rw [← hfl1, hfl] at hof
    obtain ⟨st1, hst1⟩ : ∃ st1, cst st os1 D15 = st1 := ⟨_, rfl⟩
    have h1os : st1.os = os1 := by rw [← hst1]; rfl
    have h1f : st1.f = 1 + N := by rw [← hst1, cst_f, hf1]
    have h1f2 : st1.f2 = 1 := by rw [← hst1, cst_f2, hf0]
    have h1sz : st1.size = N := by rw [← hst1]; exact hstz.1
    have h1hf : st1.half = 1 := by rw [← hst1]; show 1 - st.half = 1; rw [hstz.2.1]; rfl
    rw [hst1] at M15
    rw [← h1os, ← h1f] at hwi hSh1 hGd1
    rw [← h1os] at hfl
    clear hfl1 hos1 hxs1 hst1 hstz hf0 hf1 hb hSh1 hOL hu15 hn15 hP hPd b4 b6 b7 b4d b6d b7d k7 hRa hCa hbase hrlt
    have hCp := M15.copy (fun k h => hl15 k h)
    go_wp2_with (first
      | (go_at_call 37; (with_reducible refine hCp.mono ?_); clear hCp; rintro e w16 ⟨g7, rfl, O16, hb16⟩
         have hb17 := below_alloc (Below.refl _ w16) (.cells #[.pointer (some ⟨g7, 0, none⟩)] 26)
         have b10 := Bx.new w16 26 (.pointer (some ⟨g7, 0, none⟩))
         have O17 := O16.below hb17
         have M17 := (M15.below hb16).below hb17
         have hC17 := Kd.C_below (Kd.C_below hC15 hb16) hb17
         have b4g := (b4e.below hb16).below hb17
         have b6g := (b6e.below hb16).below hb17
         have b7g := (b7e.below hb16).below hb17
         have hb17w := below_step (below_step hb15w hb16) hb17
         have hs16 := hb16.size
         have c7 := b7g.cell
         have hCo2 := collect_any M17 (fun k h => by have := hl15 k h; rw [World.size_alloc]; omega) B15 d15 xs1 hC17 hcu (by omega) (fun ad h => ⟨(hltB ad h).1, by have := (hltB ad h).2; rw [World.size_alloc]; omega⟩) hwi
         rw [hxl1] at hCo2)
      | (go_at_call 19; (with_reducible refine hCo2.mono ?_); clear hCo2; unfold Collected; rintro e w20 ⟨S20, B20, d20, D20, rfl, M20, hu20, hl20, hn20, ho20, hf20⟩
         rw [hxl1] at ho20 hn20))
    replace M20 : IsMem S20 w20 g (cst st1 (col st1.f2 st1.f st1.os (heads st1.f st1.os)) D20) := M20
    have hs17 : (w16.alloc (.cells #[.pointer (some ⟨g7, 0, none⟩)] 26)).heap.size = w16.heap.size + 1 := World.size_alloc _ _
    have hU : ∀ k, S15 k → w2.heap.size < k ∧ k ≠ w5.heap.size ∧ k < w15.heap.size := fun k h => ⟨(hU15 k h).1, (hU15 k h).2, hl15 k h⟩
    have b4h := b4g.fr hf20 (fun h => by have := hU _ h; omega)
    have b6h := b6g.fr hf20 (fun h => by have := hU _ h; omega)
    have b7h := b7g.fr hf20 (fun h => by have := hU _ h; omega)
    have b10h := b10.fr hf20 (fun h => by have := hU _ h; omega)
    have O20 := O17.keep hf20 (fun k h h2 => by have := hU _ h2; omega)
    have hb20w := below_fr hb17w hf20 (fun k h => by have := hU k h; omega)
    have hC20 := C_fr hC17 hf20 (fun ad h => (hltB ad h).1)
    have ho20' := (Kd.R_reads' ho20).2.2
    rw [List.length_map] at ho20'
    have hcl := col_flat st1.f2 st1.f st1.os (heads st1.f st1.os)
    rw [flat_heads, hfl] at hcl
    obtain ⟨Fm, hFm⟩ : ∃ Fm : Nat, N - (fl : Int) = (Fm : Int) := ⟨(N - (fl : Int)).toNat, by omega⟩
    have hF1 : ∀ W, Drawn0 w20 W → Calls Try.prog 32 #[.pointer (some ⟨g, 0, none⟩)] W fun e w' => e = .returned (.int .i64 (Fm : Int)) ∧ Drawn0 W w' := fun W hd => by
      have h := (M20.drawn hd).free
      rw [show (flat (cst st1 (col st1.f2 st1.f st1.os (heads st1.f st1.os)) D20).os).length = fl from hcl, show (cst st1 (col st1.f2 st1.f st1.os (heads st1.f st1.os)) D20).size = N from h1sz, hFm] at h
      exact h
    have hF2 : ∀ W, Drawn0 w20 W → Calls Try.prog 32 #[.pointer (some ⟨g7, 0, none⟩)] W fun e w' => e = .returned (.int .i64 (Fm : Int)) ∧ Drawn0 W w' := fun W hd => by
      have h := (O20.drawn hd).free
      rw [hfl, h1sz, hFm] at h
      exact h
    have hF3 : ∀ W, Drawn0 w20 W → Calls Try.prog 30 #[.pointer (some ⟨g, 0, none⟩)] W fun e w' => e = .returned (.int .i64 0) ∧ w' = W := fun W hd => by
      have h := (M20.drawn hd).halfc
      rw [show (cst st1 (col st1.f2 st1.f st1.os (heads st1.f st1.os)) D20).half = 0 from (by show 1 - st1.half = 0; rw [h1hf]; rfl)] at h
      exact h
    have k7 := b7h.cell
    have k10 := b10h.cell
    have HWI := Aside0.mk hwi
    clear hwi
    clear hcl hU15 hU M15 O16 M17 O17 hC15 hC17 b4e b6e b7e b4g b6g b7g b10 hfl h1sz h1hf hFm hof hf20 hf15 c6 c7 hb17 hb16 hb17w hb15w hb6w hb5d hS0
    go_quiet (first
      | (go_at_call 32; (with_reducible exact q_of (hF1 _ (d0 _ _))))
      | (go_at_call 32; (with_reducible exact q_of (hF2 _ (d0 _ _))))
      | (go_at_call 30; (with_reducible exact Calls.quiet_of_same (hF3 _ (d0 _ _)))))
    go_wp2_with fail
    have hd : Drawn0 w20 (w20.drewN nq) := d0 _ _
    have hbx : ∀ W, Drawn0 w20 W → W.cell? ⟨w2.heap.size, 0, none⟩ = some (.int .i64 N) := fun W hd => (b6h.below hd.below).cell
    have hR1 : ∀ W, Drawn0 w20 W → Kd.C (Kd.int .u64) W B15 xs1.length xs1 := fun W hd => Kd.C_below hC20 hd.below
    have hR2 : ∀ W, Drawn0 w20 W → Kd.C (Kd.int .u64) W B20 xs1.length (xs1.map (cw st1.f2 st1.f st1.os (heads st1.f st1.os))) := fun W hd => Kd.C_below ho20' hd.below
    have hMr := M20.fbound
    have hOr := O20.fbound
    clear k7 k10 hF1 hF2 hF3
    go_loopw [13] (fun i wr => ∃ k : Nat, k ≤ xs.length ∧ i = .int .i64 (k : Int) ∧ Drawn0 w20 wr) (fun i _ => xs.length - (intOf i).toNat)
    case atStart => exact ⟨0, Nat.zero_le _, rfl, hd⟩
    case round =>
      clear hd
      obtain ⟨k, hk, rfl, hd⟩ := hrel
      by_cases hlt : k < xs.length
      · have t1 : decide ((k : Int) < (xs.length : Int)) = true := decide_eq_true (by omega)
        obtain ⟨ad1, e1, q1⟩ := Kd.at_int (hR1 _ hd) (k : Int) (by omega) (by omega)
        obtain ⟨ad2, e2, q2⟩ := Kd.at_int (hR2 _ hd) (k : Int) (by omega) (by omega)
        have q3 := hbx _ hd
        subst e1 e2
        rw [Int.toNat_natCast] at q1 q2
        have hkl : k < xs1.length := by omega
        have hmem : rd xs1 (k : Int) ∈ xs1 := by simp [rd, List.getD, hkl]
        have hyc : rd (xs1.map (cw st1.f2 st1.f st1.os (heads st1.f st1.os))) (k : Int) = cw st1.f2 st1.f st1.os (heads st1.f st1.os) (rd xs1 (k : Int)) := by simp [rd, List.getD, hkl]
        rw [hyc] at q2
        have hxu1 := hcu _ hmem
        have hcc1 := cw_heads (f2 := st1.f2) (hGd1 _ hmem)
        generalize hx : rd xs1 (k : Int) = x at *
        generalize hy : cw st1.f2 st1.f st1.os (heads st1.f st1.os) x = y at *
        have hi := fun W => int33 x hxu1 W
        clear hx hy hyc hmem hkl hGd1 hcu hR1 hR2 hbx
        rcases hcc1 with ⟨ho, rfl⟩ | ⟨i, hil, rfl, rfl⟩
        · rw [show (y % 2 == 1) = true from beq_iff_eq.2 ho] at hi
          go_wp2_with fail
          go_quiet (first
            | (go_at_call 33; (with_reducible exact q_of (hi _))))
          go_wp2_with fail
          go_roundw
          case rel => exact ⟨k + 1, by omega, rfl, drawn_trans hd (d0 _ _)⟩
          case measure => simp [intOf]; omega
        · have hp := pos_mono st1.os i (Nat.le_of_lt hil)
          obtain ⟨a, ha⟩ : ∃ a, st1.f2 + (pos st1.os i : Int) = a := ⟨_, rfl⟩
          have ha2 : st1.f + (pos st1.os i : Int) = a + N := by omega
          have hra : 1 ≤ a ∧ a ≤ 1000000 ∧ 0 ≤ N ∧ N ≤ 1000000 := by omega
          rw [ha2] at q1 hi
          rw [ha] at q2
          have ht1 := to35 (a + N) (by omega)
          have ht2 := to35 a (by omega)
          have hwr : IntKind.i64.wrap (a + N) = a + N := by rw [IntKind.wrap_i64]; omega
          clear ha ha2 h1f h1f2 hp hNo
          rw [even_odd] at hi
          go_wp2_with fail
          go_quiet (first
            | (go_at_call 33; (with_reducible exact q_of (hi _)))
            | (go_at_call 35; (with_reducible exact q_of (ht1 _)))
            | (go_at_call 35; (with_reducible exact q_of (ht2 _))))
          go_wp2_with fail
          go_roundw
          case rel => exact ⟨k + 1, by omega, rfl, drawn_trans hd (d0 _ _)⟩
          case measure => simp [intOf]; omega
      · obtain rfl : k = xs.length := by omega
        have t1 : decide (((xs.length : Nat) : Int) < (xs.length : Int)) = false := decide_eq_false (by omega)
        have b4i := b4h.below hd.below
        have b6i := b6h.below hd.below
        have b7i := b7h.below hd.below
        have b10i := b10h.below hd.below
        have O21 := O20.drawn hd
        have M21 := M20.drawn hd
        have hb21w := below_step hb20w hd.below
        have c10 := b10i.cell
        have hlo := O21.os_len
        clear hcu hGd1 hR1 hR2 hbx hd ho15 ho20 ho20' hC20 O20 M20 hb20w b4h b6h b7h b10h
        go_wp2_with (first
          | (go_at_call 31; (with_reducible refine (objects_any _ _).mono ?_); rintro e w18 ⟨rfl, rfl⟩
             have hnn2 := fun W => objs_there wr.heap.size W; refine Hid.out ?_))
        unfold Hid
        have hb22 := below_alloc (Below.refl _ wr) (.cells #[.pointer (some ⟨g7, 0, none⟩)] 26)
        have bB := Bx.new wr 26 (.pointer (some ⟨g7, 0, none⟩))
        have b4j := b4i.below hb22
        have b6j := b6i.below hb22
        have b7j := b7i.below hb22
        have b10j := b10i.below hb22
        have O22 := O21.below hb22
        have M22 := M21.below hb22
        have hb22w := below_step hb21w hb22
        have hw0 : w.heap.size < wr.heap.size := by have := b4i.lt; omega
        obtain ⟨Bo, hBo⟩ : ∃ Bo, wr.heap.size = Bo := ⟨_, rfl⟩
        rw [hBo] at bB hnn2 hw0 ⊢
        generalize hW22 : (wr.alloc (.cells #[.pointer (some ⟨g7, 0, none⟩)] 26)) = W22 at *
        clear hW22 hb22 b4i b6i b7i b10i O21 M21 c10 hBo hb21w
        go_wp2_with fail
        have H1F := Aside0.mk h1f
        have H1F2 := Aside0.mk h1f2
        clear h1f h1f2 h1os hNo
        refine (wpIn_wide (n := 5)).1 ?_
        refine' range_all (F := Fence.wide) (n := 5) rfl (by omega) (gf := 66) (lb := #[.pointer (some ⟨Bo, 0, none⟩)]) rfl trivial (enters_of Try.func66 (by kernel_rfl) rfl)
          (encs := fun k => #[.int .i64 (st1.f + (pos st1.os k : Int))]) (N := st1.os.length) (fun k W => Below W22.heap.size W22 W)
          (w0 := W22) (objs_feeds Fence.wide (5 - 1) trivial rfl (by omega) Bo st1.os.length (fun _ => st1) _ W22 (fun k W _ K => ⟨bB.below K, _, st1.mvd, O22.below K⟩) (fun k hk => hk) rfl) (Below.refl _ _) (fun _ => rfl) ?own ?h0 _ ?assign ?body ?done
        case own =>
          intro k W W' row K hg hr
          exact K.grown hg K.size (fun k e => (hr k e).1)
        case h0 => exact Below.refl _ _
        case assign =>
          intro l k W K' hK
          gi_wp2
          exact hK
        case body =>
          intro l k W K hk
          have hp := pos_mono st1.os k (Nat.le_of_lt hk)
          have h1f := H1F.out
          have h1f2 := H1F2.out
          have hNo := hNN.out
          have hmh : st1.f + (pos st1.os k : Int) ∈ heads st1.f st1.os := mem_heads.2 ⟨k, hk, rfl⟩
          have hu1 : u64 (2 * (st1.f + (pos st1.os k : Int))) := by unfold u64; omega
          have hAl := ways_like (O22.below K) (M22.below K) HWI.out hu1 (.inr (by rw [show 2 * (st1.f + (pos st1.os k : Int)) / 2 = st1.f + (pos st1.os k : Int) by omega]; exact hmh))
          rw [cw_even (by omega), show 2 * (st1.f + (pos st1.os k : Int)) / 2 = st1.f + (pos st1.os k : Int) by omega, na_heads k hk] at hAl
          obtain ⟨a, ha⟩ : ∃ a, st1.f2 + (pos st1.os k : Int) = a := ⟨_, rfl⟩
          have ha2 : st1.f + (pos st1.os k : Int) = a + N := by omega
          have hra : 1 ≤ a ∧ a ≤ 1000000 ∧ 0 ≤ N ∧ N ≤ 1000000 := by omega
          rw [ha, ha2] at hAl
          have hp1 := ptr40 (a + N) (by omega)
          have hp2 := ptr40 a (by omega)
          have hwr : IntKind.i64.wrap (a + N - N) = a := by rw [IntKind.wrap_i64]; omega
          have hwr2 : wrap64 (a + N - N) = a := by rw [w64 (by omega)]; omega
          have hwr3 : IntKind.i64.wrap a = a := by rw [IntKind.wrap_i64]; omega
          have k6 := (b6j.below K).cell
          have k7 := (b7j.below K).cell
          have k10 := (b10j.below K).cell
          have ha2' := Aside0.mk ha2
          clear ha h1f h1f2 hu1 hmh hMr hOr hNo hp
          gi_wp2_with fail
          refine region_quiet_in (by kernel_rfl) (by kernel_rfl) ?hno (by kernel_rfl) ?go
          case hno => rintro ⟨_, _, h⟩; exact h
          case go =>
            repeat (quiet_step (first
              | (go_at_call 40; (with_reducible exact q_of (hp1 _)))
              | (go_at_call 40; (with_reducible exact q_of (hp2 _)))
              | (go_at_call 39; (with_reducible exact q_of (hAl _ (d0 _ _))))))
            refine wpQuiet_nil ?_
            rintro _ ⟨nq2, rfl⟩
            gi_wp2_with fail
            exact ⟨⟨Nat.le_refl _, fun j o _ ho hc => ho⟩, below_step K (d0 W nq2).below⟩
        case done =>
          intro D1 W1 hD1 K1 hdf1
          have b4k := b4j.below K1
          have hb1w := below_step hb22w K1
          go_wp2_with (first
            | (go_at_call 24; (with_reducible refine (known_any _).mono ?_); rintro e w31 ⟨rfl, hb31⟩
               have b4l := b4k.below hb31
               have hb31w := below_step hb1w hb31
               have c4 := b4l.cell
               have f4 := b4l.frozen))
          have hw0D : w.heap.size < D1 := Nat.lt_of_lt_of_le b4j.lt hD1
          have b4m : Bx (w31.setCell ⟨w.heap.size, 0, none⟩ (.bool true)) w.heap.size 4 (.bool true) := blk_put b4l 0 _ rfl
          have k1 : w31.heap[D1]? = some (.deferred (some [])) := (hb31.block _ (Array.getElem?_eq_some_iff.1 hdf1).1).trans hdf1
          have k2 : (w31.setCell ⟨w.heap.size, 0, none⟩ (.bool true)).heap[D1]? = some (.deferred (some [])) := ((Fr.of_set (S := fun k => k = w.heap.size) w31 ⟨w.heap.size, 0, none⟩ _ rfl).same D1 (Array.getElem?_eq_some_iff.1 k1).1 (by omega)).trans k1
          refine ⟨by simp, .inl ⟨_, _, rfl, run_takeDeferred k2, ?_⟩⟩
          have b4n : Bx ((w31.setCell ⟨w.heap.size, 0, none⟩ (.bool true)).putObj D1 (.deferred none)) w.heap.size 4 (.bool true) := (World.putObj_heap_other (by omega)).trans b4m
          exact ⟨_, results_cell1 rfl _ _ ⟨w.heap.size, 0, none⟩ _ rfl (load4b _ _ _ b4n.cell), rfl, (below_set hb31w (Nat.le_refl _)).grown (grownBy_putObj' _ D1 (.deferred none)) (by have := hb31w.size; simp; omega) (fun k e => by cases e; omega)⟩
theorem twice_walk (a0 : Option Addr) (c0 : Nat) (l0 : List S71) (a1 : Option Addr) (len1 cap1 : Nat) (z1 : List Int) (w : World) (h0 : l0.length ≤ c0) (hC0 : Kd.C k71 w a0 l0.length l0) (hw : ∀ o ∈ l0, wf71 o)
    (w1 : (a1 = none ∧ len1 = 0 ∧ cap1 = 0 ∧ z1 = []) ∨ ∃ x, a1 = some x ∧ len1 ≤ cap1 ∧ cap1 ≤ maxLen ∧ z1.length = cap1 ∧ (∀ i, i < z1.length → w.cell? (x.add i) = some (.int .i64 (z1.getD i 0))) ∧ ∀ n ∈ z1, (Lit.int .i64 n).wf = true) (y1 : len1 * 8 ≤ 140737488351232) :
    Calls Try.prog 13 #[.slice a0 l0.length c0, .slice a1 len1 cap1] w fun e w' => e = .returned (.bool true) ∧ Below w.heap.size w w' := by
  obtain ⟨l1, rfl, hr1, hm1, hw1, hc1⟩ := ReadsInt.ofRowC w1
  exact twice_any a0 c0 l0 a1 cap1 l1 w h0 hC0 hw (Kd.C_of_reads (d := (0 : Int)) (h1 := fun _ => rfl) hr1) hc1
end Go.Proofs.Ytjccaojlldkmpaa.Mem
