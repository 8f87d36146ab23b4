/- The law GcRefuses, walked. -/
import Derived.Test.YtjccaojlldkmpaaRm8
namespace Go.Proofs.Ytjccaojlldkmpaa.Rm
open Go.RowKit Go.Proofs.YtjccaojlldkmpaaW.PrintWords Go.Proofs.YtjccaojlldkmpaaW.PrintLast Go.Proofs.YtjccaojlldkmpaaW.PrintMore
open Mem
open Hf (rightB right_parts)
open Pa (S71 k71 z71 rd_T71 at_T71 S87 k87)
open Open4 (i64 wf71)
open Rg
set_option linter.unusedSimpArgs false
set_option linter.unusedVariables false
set_option maxRecDepth 100000
variable {S Sm : Nat → Prop} {w w' W : World} {g gd c n : Nat} {vn vo v : Value} {rs : RS} {l : List P5} {size half : Int} {os olds : List O} {tz : Nat → Int} {st : St}
theorem whole_of (M : IsMem Sm w g st) : Whole st.os := fun o ho => by
  obtain ⟨i, hi, rfl⟩ := List.mem_iff_getElem.1 ho
  have h := parts_of M i hi
  refine ⟨⟨h.2.2.1, h.2.2.2⟩, fun x hx => ?_⟩
  obtain ⟨j, hj, rfl⟩ := List.mem_iff_getElem.1 hx
  have := word_u64 M i hi j hj
  simpa [List.getD, hj] using this
theorem results_cell1 {P : Program} {fn : Func} {p : Tmp} {ty : TypeId} (h : fn.results = #[.cell p ty]) (tmps : Array Value) (w : World) (a : Addr) (v : Value) (hp : tmps.getD p undef = .pointer (some a)) (hv : (loadVar ty a).run P w = .ok v w) :
    (results fn tmps).run P w = .ok v w := by
  have hp' : tmps[p]?.getD undef = .pointer (some a) := by simpa using hp
  simp [results, h, hp', asAddr, hv]
theorem load4b (w : World) (a : Addr) (b : Bool) (h : w.cell? a = some (.bool b)) : (loadVar 4 a).run Try.prog w = .ok (.bool b) w := by
  simp [loadVar, h, go_sem]
/-- A box with one cell. -/
def Bx (W : World) (g t : Nat) (v : Value) : Prop := W.heap[g]? = some (.cells #[v] t (0, 0))
theorem Bx.new (W : World) (t : Nat) (v : Value) : Bx (W.alloc (.cells #[v] t)) W.heap.size t v := blk_new W _
theorem Bx.cell {t : Nat} {v : Value} (h : Bx W g t v) : W.cell? ⟨g, 0, none⟩ = some v := (blk_cell h 0).trans rfl
theorem Bx.frozen {t : Nat} {v : Value} (h : Bx W g t v) : W.frozen? ⟨g, 0, none⟩ = false := blk_frozen h 0
theorem Bx.below {t : Nat} {v : Value} (h : Bx W g t v) (hb : Below W.heap.size W w') : Bx w' g t v := blk_below h hb
theorem Bx.fr {t : Nat} {v : Value} {T : Nat → Prop} (h : Bx W g t v) (fr : Fr T W w') (hT : ¬ T g) : Bx w' g t v := (fr.same g (blk_lt h) hT).trans h
theorem Bx.lt {t : Nat} {v : Value} (h : Bx W g t v) : g < W.heap.size := blk_lt h

theorem walk_bad {f : Int} {os : List O} {xs : List Int} {x : Int} (h1 : ¬ x % 2 = 1) (h2 : x / 2 ∉ heads f os) : (walkP f os (xs ++ [x])).2 = false := by
  have h : (addP f os [] (xs ++ [x])).2 = false := by
    cases e : (addP f os [] xs).2 with
    | true =>
      rw [addP_snoc f os [] xs x e]
      unfold add1
      rw [if_neg h1, if_neg h2]
      rfl
    | false => rw [addP_stop f os [] xs [x] e, e]
  unfold walkP
  rw [h]
  simp [h]
attribute [local go_sem] Oper.semAt_some
set_option maxHeartbeats 8000000 in
theorem refuses_any (A0 : Option Addr) (c0 : Nat) (l0 : List S71) (A1 : Option Addr) (c1 : Nat) (r1 : List Int) (bad : Int) (w : World) (h0 : l0.length ≤ c0) (hC0 : Kd.C k71 w A0 l0.length l0) (hw : ∀ o ∈ l0, wf71 o)
    (hC1 : Kd.C (Kd.int .i64) w A1 r1.length r1) (h1 : r1.length ≤ c1) (hbad : u64 bad) :
    Calls Try.prog 7 #[.slice A0 l0.length c0, .slice A1 r1.length c1, .int .u64 bad] w fun e w' => e = .returned (.bool true) ∧ Below w.heap.size w w' := by
  have hu30 := Try.underlying30
  obtain ⟨m, l, hHf, hl40, hfine⟩ := heap_f l0 hw
  have hG := fine_gl l hl40 hfine
  obtain ⟨xs, hxf, hx50, hxu⟩ := words_f l hl40 hfine r1
  obtain ⟨N, hN⟩ : ∃ N : Int, 64 + (adr l l.length : Int) = N := ⟨_, rfl⟩
  rw [hN] at hHf hG
  have hB0 : Below w.heap.size w (w.alloc (.cells #[.bool false] 4)) := below_alloc (Below.refl _ w) _
  have b4 := Bx.new w 4 (.bool false)
  have hH := Pa.kindlingref04_Heap.calls m A0 c0 l0 l N (w.alloc (.cells #[.bool false] 4)) (Kd.C_below hC0 hB0) h0 hHf
  have hi := fun W => int33p bad hbad W
  have hp := fun W => to35p bad hbad W
  clear hN
  refine (callsIn_wide (n := 5)).1 (callsIn_of_wp_marks Try.func7 rfl trivial ?_ rfl)
  simp only [Try.ntmps7, List.size_toArray, List.length_cons, List.length_nil, Nat.reduceAdd, Nat.reduceSub, Array.replicate_succ, Array.replicate_zero, List.push_toArray, List.append_toArray, List.nil_append, List.cons_append]
  refine wpIn_wide.2 ?_
  go_wp2_with (first
    | (go_at_call 14; (with_reducible refine Calls.mono hH ?_); clear hH; rintro e w2 ⟨v2, rfl, hS2, hb2⟩
       obtain ⟨A, c, rfl, hc, hC⟩ := Kd.S_reads hS2
       replace b4 := b4.below hb2
       have hb2w := below_step hB0 hb2
       have hMd := made_any (w := w2) (wvOf l) A c l N hC hc hG
       clear hS2)
    | (go_at_call 15; (with_reducible refine hMd.mono ?_); clear hMd; rintro e w5 ⟨g, rfl, M5⟩
       have hB5 := M5.1
       have P5 := M5.2.bound
       clear M5
       replace b4 := b4.below hB5
       have hb5 := below_step hb2w hB5
       have hC5 := Kd.C_below hC hB5
       have hWa := Pa.kindlinglaw04_words.calls 200 A c l A1 c1 r1 xs w5 hC5 hc (Kd.C_below hC1 hb5) h1 hxf)
    | (go_at_call 17; (with_reducible refine hWa.mono ?_); clear hWa; rintro e w6 ⟨va, rfl, hRa, hb6⟩
       obtain ⟨Aa, ca, rfl⟩ := Kd.R_slice hRa
       replace b4 := b4.below hb6
       have hb6w := below_step hb5 hb6
       have P6 := P5.below hb6)
    | ((with_reducible refine gate_builtin (b := .append) (xs := #[.tmp 33, .tmp 35]) rfl ?_); at_builtin; refine Kd.R_append (Kd.int .u64) (w0 := w6) w5.heap.size rfl (.tmp 33) (.tmp 35) 32 56 (.int .u64 0) 8 rfl Try.underlying32 info56 rfl (by decide) (by omega) (.slice Aa xs.length ca) xs bad [.int .u64 bad] (fun _ => True) (fun _ => False) rfl rfl rfl (fun _ hk => hk.elim) (fun _ _ => trivial) hRa (Below.refl _ _) hb6.size (by omega) ?_; intro v7 w7 ho7 hb7' hg7 hat7
       obtain ⟨A7, c7, rfl⟩ := Kd.R_slice ho7
       have hlx : (xs ++ [bad]).length = xs.length + 1 := by simp
       rw [hlx] at ho7 ⊢
       refine Hid.out ?_))
  unfold Hid
  have hrow : ∀ k, (Value.slice Aa xs.length ca).ownBlock = some k → w5.heap.size ≤ k := Kd.R_base hRa
  have P7 := P6.keep (Fr.of_grown hg7 (fun k e => e)) (fun k h e => by have := hrow k e; omega)
  have hw5 := hB5.size
  have hw2 := hb2.size
  rw [World.size_alloc] at hw2
  have b4s := b4.fr (Fr.of_grown hg7 (fun k e => e)) (fun e => by have := hrow _ e; omega)
  have hb7w : Below w.heap.size w w7 := hb6w.grown hg7 hb6w.size (fun k e => by have := hrow k e; omega)
  obtain ⟨xs2, hxs2⟩ : ∃ xs2, xs ++ [bad] = xs2 := ⟨_, rfl⟩
  have hC7 := (Kd.R_reads' ho7).2.2
  rw [hxs2] at hC7 ho7
  rw [hxs2] at hlx
  have hx2 : ∀ x ∈ xs2, u64 x := by
    rw [← hxs2]
    intro x hx
    rcases List.mem_append.1 hx with h | h
    · exact hxu x h
    · rw [List.mem_singleton.1 h]; exact hbad
  have hl2 : xs2.length ≤ 51 := by rw [← hxs2]; simp; omega
  obtain ⟨st, hst⟩ : ∃ st : St, (⟨N, 0, full (wvOf l) l, [], .map []⟩ : St) = st := ⟨_, rfl⟩
  rw [hst] at P7
  have hDd := fun W (hb : Below w5.heap.size w5 W) => made_doc (w := W) (wvOf l) A c l N (Kd.C_below hC5 hb) hc hG
  have hb57 : Below w5.heap.size w5 w7 := hb6.grown hg7 hb6.size hrow
  have HST := Aside0.mk hst
  have HXS := Aside0.mk hxs2
  have hWh := whole_of P7
  have hlx2 := hlx
  clear hlx2
  clear hst hxs2 hG hxf hHf hfine hC0 hC1 hw P5 P6 hC hb6 hRa ho7 hg7 hat7 hb7' b4 hb6w hb5 hb2w hB0 hb2 hB5
  by_cases hodd : bad % 2 = 1
  · rw [show (bad % 2 == 1) = true from beq_iff_eq.2 hodd] at hi
    go_wp2_with (first
      | (go_at_call 33; (with_reducible refine (hi _).mono ?_); clear hi; rintro e w8 ⟨rfl, hd8⟩
         have b4t := b4s.below hd8.below
         have hb8w := below_step hb7w hd8.below)
      | (go_at_call 24; (with_reducible refine (known_any _).mono ?_); rintro e w9 ⟨rfl, hb9⟩
         have b4u := b4t.below hb9
         have hb9w := below_step hb8w hb9
         have c4 := b4u.cell
         have f4 := b4u.frozen))
    have b4z : Bx (w9.setCell ⟨w.heap.size, 0, none⟩ (.bool true)) w.heap.size 4 (.bool true) := blk_put b4u 0 _ rfl
    exact ⟨_, results_cell1 rfl _ _ ⟨w.heap.size, 0, none⟩ _ rfl (load4b _ _ true b4z.cell), rfl, below_set hb9w (Nat.le_refl _)⟩
  · rw [show (bad % 2 == 1) = false from beq_eq_false_iff_ne.2 hodd] at hi
    by_cases hin : bad / 2 ∈ heads st.f st.os
    · have htp := toP_head P7 hodd hin
      rw [htp] at hp
      obtain ⟨i, hil, hie⟩ := mem_heads.1 hin
      have hLk := fun W (hd : Drawn0 w7 W) => (P7.drawn hd).look i hil
      rw [← hie] at hLk
      generalize bad / 2 = a at *
      have hd : Drawn0 w7 w7 := ⟨0, rfl⟩
      clear htp hie hDd
      go_wp2_with (first
        | (go_at_call 33; (with_reducible refine (hi _).mono ?_); clear hi; rintro e w8 ⟨rfl, hd8⟩; replace hd := drawn_trans hd hd8)
        | (go_at_call 35; (with_reducible refine (hp _).mono ?_); clear hp; rintro e w8 ⟨rfl, hd8⟩; replace hd := drawn_trans hd hd8)
        | (go_at_call 34; (with_reducible refine (hLk _ hd).mono ?_); clear hLk; rintro e w8 ⟨rfl, hd8⟩; replace hd := drawn_trans hd hd8
           have b4t := b4s.below hd.below
           have hb8w := below_step hb7w hd.below)
        | (go_at_call 24; (with_reducible refine (known_any _).mono ?_); rintro e w9 ⟨rfl, hb9⟩
           have b4u := b4t.below hb9
           have hb9w := below_step hb8w hb9
           have c4 := b4u.cell
           have f4 := b4u.frozen))
      have b4z : Bx (w9.setCell ⟨w.heap.size, 0, none⟩ (.bool true)) w.heap.size 4 (.bool true) := blk_put b4u 0 _ rfl
      exact ⟨_, results_cell1 rfl _ _ ⟨w.heap.size, 0, none⟩ _ rfl (load4b _ _ true b4z.cell), rfl, below_set hb9w (Nat.le_refl _)⟩
    · have hno := toP_no P7 hodd hin
      have hrg := toP_range bad
      have hLk := fun W (hd : Drawn0 w7 W) => IsMem.look_no (P7.drawn hd) (toP bad) (by omega) hno
      have hwb : (walkP st.f st.os xs2).2 = false := by rw [← HXS.out]; exact walk_bad hodd hin
      have hd : Drawn0 w7 w7 := ⟨0, rfl⟩
      generalize toP bad = a at *
      have hLv := fun W (hb : Below w7.heap.size w7 W) => live_no (P7.below hb) A7 c7 xs2 (Kd.C_below hC7 hb) hx2 (by omega) hwb
      have hCo := fun W (hb : Below w7.heap.size w7 W) => collect_no (P7.below hb) A7 c7 xs2 (Kd.C_below hC7 hb) hx2 (by omega) hwb
      have hRe := fun W (hb : Below w7.heap.size w7 W) => reach_any (P7.below hb) A7 c7 xs2 (Kd.C_below hC7 hb) hx2 (by omega)
      have hCk := fun W (hb : Below w7.heap.size w7 W) => check_any (P7.below hb) A7 c7 xs2 (Kd.C_below hC7 hb) hx2 (by omega)
      rw [hlx] at hLv hCo hRe hCk
      rw [hwb] at hCk
      rw [show reachL st xs2 = [] by unfold reachL; rw [hwb]; rfl] at hRe
      clear hrg hno hwb hlx
      go_wp2_with (first
        | (go_at_call 33; (with_reducible refine (hi _).mono ?_); clear hi; rintro e w8 ⟨rfl, hd8⟩; replace hd := drawn_trans hd hd8)
        | (go_at_call 35; (with_reducible refine (hp _).mono ?_); clear hp; rintro e w8 ⟨rfl, hd8⟩; replace hd := drawn_trans hd hd8)
        | (go_at_call 34; (with_reducible refine (hLk _ hd).mono ?_); clear hLk; rintro e w8 ⟨rfl, hd8⟩; replace hd := drawn_trans hd hd8
           have hb8 := hd.below
           have hb58 := below_step hb57 hb8)
        | (go_at_call 16; (with_reducible refine (hDd _ hb58).mono ?_); clear hDd; rintro e w9 ⟨g0, vn, vo, rs, rfl, hb9, D9⟩
           obtain ⟨An, cn, rfl⟩ := D9.lies.now.slice
           obtain ⟨Ao, co, rfl⟩ := D9.lies.old.slice
           have D10 := D9.rebox
           have hb10 := below_alloc hb9 (.cells #[.int .i64 N, .int .i64 0, .slice An rs.now.length cn, .slice Ao rs.old.length co] 30)
           have hb10w := below_step hb8 hb10
           clear D9)
        | (go_at_call 28; (with_reducible refine (hLv _ hb10w).mono ?_); clear hLv; rintro e w11 ⟨rfl, hb11⟩
           have D11 := D10.below hb11
           have hb11w := below_step hb10w hb11)
        | (go_at_call 19; (with_reducible refine (hCo _ hb11w).mono ?_); clear hCo; rintro e w12 ⟨rfl, hb12⟩
           have D12 := D11.below hb12
           have hb12w := below_step hb11w hb12)
        | (go_at_call 27; (with_reducible refine (hRe _ hb12w).mono ?_); clear hRe; rintro e w13 ⟨bo, rfl, hSq, hb13⟩
           have D13 := D12.below hb13
           have hb13w := below_step hb12w hb13
           have hnn := fun W => seq_there bo W; refine Hid.out ?_))
      unfold Hid
      go_wp2_with fail
      obtain ⟨-, Ar, cr, hT1, hT2⟩ := hSq
      have P13 := P7.below hb13w
      have D14 : DocL (fun k => w8.heap.size ≤ k ∨ w9.heap.size ≤ k) w13 w9.heap.size (.slice An rs.now.length cn) (.slice Ao rs.old.length co) rs st.size st.half st.os [] nowhere := by rw [← HST.out]; exact D13
      have b4t := b4s.below hb13w
      have hb13o := below_step hb7w hb13w
      generalize w9.heap.size = gd at D14 ⊢
      clear D10 D11 D12 D13 hb12w hb11w hb10w hb12 hb11 hb10 hb9 P7 hnn
      refine (wpIn_wide (n := 5)).1 ?_
      refine' range_all (F := Fence.wide) (n := 5) rfl (by omega) (gf := 65) (lb := #[.pointer (some ⟨bo, 0, none⟩)]) rfl trivial (enters_of Try.func65 (by kernel_rfl) rfl)
        (encs := fun k => #[.int .i64 (rdOf 0 [] (k : Int))]) (N := 0) (fun k W => Below w13.heap.size w13 W)
        (w0 := w13) (reach_feeds Fence.wide (5 - 1) trivial rfl (by omega) bo [] _ w13 Ar cr (by decide) (fun k W K => ⟨blk_below hT1 K, Kd.R_lower (Kd.R_below hT2 K) (Nat.zero_le _)⟩)) (Below.refl _ _) (fun _ => rfl) ?own ?h0 _ ?assign ?body ?done
      case own =>
        intro k W W' row K hg hr
        exact K.grown hg K.size (fun k e => (hr k e).1)
      case h0 => exact Below.refl _ _
      case assign =>
        intro l k W K' hK
        gi_wp2
        exact hK
      case body =>
        intro l k W K hk
        exact absurd hk (Nat.not_lt_zero _)
      case done =>
        intro D1 W1 hD1 K1 hdf1
        have hw0D : w.heap.size < D1 := Nat.lt_of_lt_of_le b4t.lt hD1
        have hkb := below_step hb13w K1
        have hSm := fun W (hb : Below w13.heap.size w13 W) => same_any (P13.below hb) (D14.below hb)
        have b4u := b4t.below K1
        have hb1o := below_step hb13o K1
        clear hT1 hT2
        go_wp2_with (first
          | (go_at_call 26; (with_reducible refine (hCk _ hkb).mono ?_); clear hCk; rintro e w15 ⟨rfl, hb15⟩
             have hb15k := below_step K1 hb15)
          | (go_at_call 22; (with_reducible refine (hSm _ hb15k).mono ?_); clear hSm; rintro e w16 ⟨rfl, hb16⟩
             have hb16k := below_step hb15k hb16)
          | (go_at_call 24; (with_reducible refine (known_any _).mono ?_); rintro e w17 ⟨rfl, hb17⟩
             have hb17k := below_step hb16k hb17
             have b4v := b4t.below hb17k
             have c4 := b4v.cell
             have f4 := b4v.frozen))
        have hb17o := below_step hb13o hb17k
        have hbD := below_step (below_step hb15 hb16) hb17
        have b4m : Bx (w17.setCell ⟨w.heap.size, 0, none⟩ (.bool true)) w.heap.size 4 (.bool true) := blk_put b4v 0 _ rfl
        have k1 : w17.heap[D1]? = some (.deferred (some [])) := (hbD.block _ (Array.getElem?_eq_some_iff.1 hdf1).1).trans hdf1
        have k2 : (w17.setCell ⟨w.heap.size, 0, none⟩ (.bool true)).heap[D1]? = some (.deferred (some [])) := ((Fr.of_set (S := fun k => k = w.heap.size) w17 ⟨w.heap.size, 0, none⟩ _ rfl).same D1 (Array.getElem?_eq_some_iff.1 k1).1 (by omega)).trans k1
        refine ⟨by simp, .inl ⟨_, _, rfl, run_takeDeferred k2, ?_⟩⟩
        have b4n : Bx ((w17.setCell ⟨w.heap.size, 0, none⟩ (.bool true)).putObj D1 (.deferred none)) w.heap.size 4 (.bool true) := (World.putObj_heap_other (by omega)).trans b4m
        exact ⟨_, results_cell1 rfl _ _ ⟨w.heap.size, 0, none⟩ _ rfl (load4b _ _ _ b4n.cell), rfl, (below_set hb17o (Nat.le_refl _)).grown (grownBy_putObj' _ D1 (.deferred none)) (by have := hb17o.size; simp; omega) (fun k e => by cases e; omega)⟩
theorem wf_u64 {n : Int} (h : (Lit.int .u64 n).wf = true) : 0 ≤ n ∧ n < 18446744073709551616 := by
  have h : 0 ≤ n ∧ n ≤ 18446744073709551615 := by simpa [Lit.wf, IntKind.min, IntKind.max, IntKind.signed, IntKind.bits] using h
  omega
theorem refuses_walk (a0 : Option Addr) (c0 : Nat) (l0 : List S71) (a1 : Option Addr) (len1 cap1 : Nat) (z1 : List Int) (bad : Int) (w : World) (h0 : l0.length ≤ c0) (hC0 : Kd.C k71 w a0 l0.length l0) (hw : ∀ o ∈ l0, wf71 o)
    (w1 : (a1 = none ∧ len1 = 0 ∧ cap1 = 0 ∧ z1 = []) ∨ ∃ x, a1 = some x ∧ len1 ≤ cap1 ∧ cap1 ≤ maxLen ∧ z1.length = cap1 ∧ (∀ i, i < z1.length → w.cell? (x.add i) = some (.int .i64 (z1.getD i 0))) ∧ ∀ n ∈ z1, (Lit.int .i64 n).wf = true) (y1 : len1 * 8 ≤ 140737488351232) (w2 : (Lit.int .u64 bad).wf = true) :
    Calls Try.prog 7 #[.slice a0 l0.length c0, .slice a1 len1 cap1, .int .u64 bad] w fun e w' => e = .returned (.bool true) ∧ Below w.heap.size w w' := by
  obtain ⟨l1, rfl, hr1, hm1, hw1, hc1⟩ := ReadsInt.ofRowC w1
  exact refuses_any a0 c0 l0 a1 cap1 l1 bad w h0 hC0 hw (Kd.C_of_reads (d := (0 : Int)) (h1 := fun _ => rfl) hr1) hc1 (wf_u64 w2)
end Go.Proofs.Ytjccaojlldkmpaa.Rm
