/- The law GcReaches, walked. -/
import Derived.Test.YtjccaojlldkmpaaRB
namespace Go.Proofs.Ytjccaojlldkmpaa.Rg
open Go.RowKit
theorem range_leave {F : Fence} {n : Nat} {P : Program} {g : Operand} {ps : Array Tmp} {assign body : Code} {Q : Exit → Act → World → Prop} {a : Act} {w : World} (hro : F.round = none) (h1 : 1 ≤ n) {gf : Nat} {lb : Array Value}
    (hg : a.eval g = .func (.func gf) #[] lb) (hFg : F.fn gf) (eg : ∀ args w, (callFunc gf args).run P w = .ok (.enter gf args) w) {encs : Nat → Array Value} {N : Nat} (id0 : Nat) (I : Nat → World → Prop) (Ix : World → Prop) {w0 : World}
    (hseq : FeedsS F (n - 1) P gf lb encs N I w0) (hb0 : Below w0.heap.size w0 w) (hps : ∀ k, (encs k).size = ps.size) (hI : OwnFrom w.heap.size I) (hIx : OwnFrom w.heap.size (fun (_ : Nat) W => Ix W)) (h0 : I 0 w) (hex : ∀ a W, Q .normal a W → Q (.exit id0) a W) (a₁ : Nat → Act)
    (hassign : ∀ (l k : Nat) (W : World) (K : Act → World → Prop), K (a₁ k) W →
      assign.wpIn (F.inRound l) (n - 1 - 1) P (Exit.then K (fun _ _ _ => False)) { tmps := (ps.zip (encs k)).foldl (fun t (p, v) => t.setIfInBounds p v) a.tmps, defers := [] } W)
    (hbody : ∀ (l k : Nat) (W : World), I k W → k < N → body.wpIn (F.inRound l) (n - 1 - 1) P (someOn w.heap.size I (fun id W => id = id0 ∧ Ix W) k W) (a₁ k) W)
    (hdone : ∀ (D : Nat) (W : World), w.heap.size ≤ D → (I N W ∨ Ix W) → W.heap[D]? = some (.deferred (some [])) → Q .normal { a with defers := { target := .collected D, args := #[] } :: a.defers } W) :
    (Code.rangeFunc g ps assign body).wpIn F n P Q a w :=
  range_some hro h1 hg hFg eg I (fun id W => id = id0 ∧ Ix W) hseq hb0 hps hI (fun s W W' row h hg hr => ⟨h.1, hIx s W W' row h.2 hg hr⟩) h0 a₁ hassign hbody
    (fun D W hD hi hd => hdone D W hD (.inl hi) hd) (fun D id W hD hi hd => by
      obtain ⟨rfl, hi⟩ := hi
      exact wpIn_exit (hex _ _ (hdone D W hD (.inr hi) hd)))
end Go.Proofs.Ytjccaojlldkmpaa.Rg

namespace Go.Proofs.Ytjccaojlldkmpaa.Rm
open Go.RowKit Go.Proofs.YtjccaojlldkmpaaW.PrintWords Go.Proofs.YtjccaojlldkmpaaW.PrintLast Go.Proofs.YtjccaojlldkmpaaW.PrintMore
open Mem
open Hf (rightB right_parts)
open Pa (S71 k71 z71 rd_T71 at_T71 S87 k87)
open Open4 (i64 wf71)
open Rg
set_option linter.unusedSimpArgs false
set_option linter.unusedVariables false
set_option maxRecDepth 100000
variable {S Sm : Nat → Prop} {w w' W : World} {g gd c n : Nat} {vn vo v : Value} {rs : RS} {l : List P5} {size half : Int} {os olds : List O} {tz : Nat → Int} {st : St}
theorem whole_of (M : IsMem Sm w g st) : Whole st.os := fun o ho => by
  obtain ⟨i, hi, rfl⟩ := List.mem_iff_getElem.1 ho
  have h := parts_of M i hi
  refine ⟨⟨h.2.2.1, h.2.2.2⟩, fun x hx => ?_⟩
  obtain ⟨j, hj, rfl⟩ := List.mem_iff_getElem.1 hx
  have := word_u64 M i hi j hj
  simpa [List.getD, hj] using this
theorem results_cell1 {P : Program} {fn : Func} {p : Tmp} {ty : TypeId} (h : fn.results = #[.cell p ty]) (tmps : Array Value) (w : World) (a : Addr) (v : Value) (hp : tmps.getD p undef = .pointer (some a)) (hv : (loadVar ty a).run P w = .ok v w) :
    (results fn tmps).run P w = .ok v w := by
  have hp' : tmps[p]?.getD undef = .pointer (some a) := by simpa using hp
  simp [results, h, hp', asAddr, hv]
theorem load4b (w : World) (a : Addr) (b : Bool) (h : w.cell? a = some (.bool b)) : (loadVar 4 a).run Try.prog w = .ok (.bool b) w := by
  simp [loadVar, h, go_sem]
/-- A box with one cell. -/
def Bx (W : World) (g t : Nat) (v : Value) : Prop := W.heap[g]? = some (.cells #[v] t (0, 0))
theorem Bx.new (W : World) (t : Nat) (v : Value) : Bx (W.alloc (.cells #[v] t)) W.heap.size t v := blk_new W _
theorem Bx.cell {t : Nat} {v : Value} (h : Bx W g t v) : W.cell? ⟨g, 0, none⟩ = some v := (blk_cell h 0).trans rfl
theorem Bx.frozen {t : Nat} {v : Value} (h : Bx W g t v) : W.frozen? ⟨g, 0, none⟩ = false := blk_frozen h 0
theorem Bx.below {t : Nat} {v : Value} (h : Bx W g t v) (hb : Below W.heap.size W w') : Bx w' g t v := blk_below h hb
theorem Bx.fr {t : Nat} {v : Value} {T : Nat → Prop} (h : Bx W g t v) (fr : Fr T W w') (hT : ¬ T g) : Bx w' g t v := (fr.same g (blk_lt h) hT).trans h
theorem Bx.lt {t : Nat} {v : Value} (h : Bx W g t v) : g < W.heap.size := blk_lt h

/-- A count in a box; all else lies as it lay. -/
def Cnt (w0 : World) (bn : Nat) (k : Int) (W : World) : Prop := W.heap[bn]? = some (.cells #[.int .i64 k] 3 (0, 0)) ∧ Fr (fun j => j = bn) w0 W
theorem cnt_row {row : Option Nat} {B' : Nat} (h : ∀ r, row = some r → B' ≤ r ∧ ∃ o : Obj, W.heap[r]? = some o ∧ o.isCells = false) {k : Nat} {o : Obj} (hk : W.heap[k]? = some o) (ho : o.isCells = true) : some k ≠ row := fun e => by
  obtain ⟨-, o', h1, h2⟩ := h _ e.symm
  rw [hk] at h1
  cases h1
  rw [ho] at h2
  cases h2
theorem Cnt.kept {w0 : World} {bn : Nat} {k : Int} (K : Cnt w0 bn k W) {B' : Nat} {row : Option Nat} (hg : W.grownBy w' row) (h : ∀ r, row = some r → B' ≤ r ∧ ∃ o : Obj, W.heap[r]? = some o ∧ o.isCells = false) (hB : w0.heap.size ≤ B') : Cnt w0 bn k w' :=
  ⟨(hg.block _ (blk_lt K.1) (cnt_row h K.1 rfl)).trans K.1, ⟨⟨hg.os.trans K.2.low.os, hg.tape.trans K.2.low.tape, hg.output.trans K.2.low.output, Nat.le_trans K.2.low.size hg.size, fun j hj => absurd hj (Nat.not_lt_zero j)⟩,
    fun j hj hn => (hg.block j (Nat.lt_of_lt_of_le hj K.2.low.size) (fun e => by have := (h j e.symm).1; omega)).trans (K.2.same j hj hn)⟩⟩
theorem Cnt.put {w0 : World} {bn : Nat} {k : Int} (K : Cnt w0 bn k W) (v : Int) : Cnt w0 bn v (W.setCell ⟨bn, 0, none⟩ (.int .i64 v)) :=
  ⟨blk_put K.1 0 _ rfl, K.2.trans (Fr.of_set W ⟨bn, 0, none⟩ _ rfl)⟩
theorem keeps_put {bn B' : Nat} {k v : Int} (h : W.heap[bn]? = some (.cells #[.int .i64 k] 3 (0, 0))) : KeepsFrom B' W (W.setCell ⟨bn, 0, none⟩ (.int .i64 v)) :=
  ⟨by rw [World.size_setCell]; exact Nat.le_refl _, fun j o _ ho hc => by
    by_cases e : j = bn
    · subst e
      rw [h] at ho
      cases ho
      cases hc
    · exact ((Fr.of_set (S := fun j => j = bn) W ⟨bn, 0, none⟩ (.int .i64 v) rfl).same j (Array.getElem?_eq_some_iff.1 ho).1 e).trans ho⟩

/-- What the loops read, kept below a bound. -/
structure Base (bnd : Nat) (w W : World) (stop : Int) (ob bo g gd : Nat) (Av Ar : Option Addr) (cv cr : Nat) (L : List Int) (S1 S2 : Nat → Prop) (st : St) (vn vo : Value) (rs : RS) : Prop where
  b4 : Bx W (w.heap.size + 1) 4 (.bool false)
  bs : Bx W w.heap.size 3 (.int .i64 stop)
  b12 : Bx W ob 23 (.slice Av L.length cv)
  t1 : Bx W bo 23 (.slice Ar L.length cr)
  t2 : (Kd.int .i64).R 3 W 0 (fun _ => True) (.slice Ar L.length cr) L
  rv : (Kd.int .i64).R 3 W 0 (fun _ => True) (.slice Av L.length cv) L
  m : IsMem S2 W g st
  d : DocL S1 W gd vn vo rs st.size st.half st.os [] nowhere
  bw : Below w.heap.size w W
  l4 : w.heap.size + 1 < bnd
  l12 : ob < bnd
  lo : bo < bnd
  l2 : ∀ k, (Value.slice Ar L.length cr).ownBlock = some k → k < bnd
  lv : ∀ k, (Value.slice Av L.length cv).ownBlock = some k → k < bnd
  lm : ∀ k, S2 k → k < bnd
  ld : ∀ k, S1 k → k < bnd
theorem Base.fr {bnd : Nat} {stop : Int} {ob bo : Nat} {Av Ar : Option Addr} {cv cr : Nat} {L : List Int} {S1 S2 : Nat → Prop} (B : Base bnd w W stop ob bo g gd Av Ar cv cr L S1 S2 st vn vo rs) {T : Nat → Prop} (fr : Fr T W w') (hT : ∀ k, T k → bnd ≤ k) : Base bnd w w' stop ob bo g gd Av Ar cv cr L S1 S2 st vn vo rs where
  b4 := B.b4.fr fr (fun h => by have := hT _ h; have := B.l4; omega)
  bs := B.bs.fr fr (fun h => by have := hT _ h; have := B.l4; omega)
  b12 := B.b12.fr fr (fun h => by have := hT _ h; have := B.l12; omega)
  t1 := B.t1.fr fr (fun h => by have := hT _ h; have := B.lo; omega)
  t2 := R_fr B.t2 fr (fun k hk h => by have := hT _ h; have := B.l2 k hk; omega)
  rv := R_fr B.rv fr (fun k hk h => by have := hT _ h; have := B.lv k hk; omega)
  m := B.m.keep fr (fun k hk h => by have := hT _ h; have := B.lm k hk; omega)
  d := B.d.keep fr (fun k hk h => by have := hT _ h; have := B.ld k hk; omega)
  bw := below_fr B.bw fr (fun k h => by have := hT _ h; have := B.l4; omega)
  l4 := B.l4
  l12 := B.l12
  lo := B.lo
  l2 := B.l2
  lv := B.lv
  lm := B.lm
  ld := B.ld
attribute [local go_sem] Oper.semAt_some
set_option maxHeartbeats 16000000 in
theorem reaches_any (A0 : Option Addr) (c0 : Nat) (l0 : List S71) (A1 : Option Addr) (c1 : Nat) (r1 : List Int) (stop : Int) (w : World) (h0 : l0.length ≤ c0) (hC0 : Kd.C k71 w A0 l0.length l0) (hw : ∀ o ∈ l0, wf71 o)
    (hC1 : Kd.C (Kd.int .i64) w A1 r1.length r1) (h1 : r1.length ≤ c1) :
    Calls Try.prog 4 #[.slice A0 l0.length c0, .slice A1 r1.length c1, .int .i64 stop] w fun e w' => e = .returned (.bool true) ∧ Below w.heap.size w w' := by
  have hu30 := Try.underlying30
  have hu3 := Try.underlying3
  have hu23 := Try.underlying23
  obtain ⟨m, l, hHf, hl40, hfine⟩ := heap_f l0 hw
  have hG := fine_gl l hl40 hfine
  obtain ⟨xs, hxf, hx50, hxu⟩ := words_f l hl40 hfine r1
  obtain ⟨N, hN⟩ : ∃ N : Int, 64 + (adr l l.length : Int) = N := ⟨_, rfl⟩
  rw [hN] at hHf hG
  have hB00 : Below w.heap.size w (w.alloc (.cells #[.int .i64 stop] 3)) := below_alloc (Below.refl _ w) _
  have hB01 := below_alloc (Below.refl _ (w.alloc (.cells #[.int .i64 stop] 3))) (.cells #[.bool false] 4)
  have hB0 := below_step hB00 hB01
  have bs := (Bx.new w 3 (.int .i64 stop)).below hB01
  have b4 := Bx.new (w.alloc (.cells #[.int .i64 stop] 3)) 4 (.bool false)
  rw [World.size_alloc] at b4
  have hH := Pa.kindlingref04_Heap.calls m A0 c0 l0 l N ((w.alloc (.cells #[.int .i64 stop] 3)).alloc (.cells #[.bool false] 4)) (Kd.C_below hC0 hB0) h0 hHf
  clear hN
  refine (callsIn_wide (n := 5)).1 (callsIn_of_wp_marks Try.func4 rfl trivial ?_ rfl)
  simp only [Try.ntmps4, List.size_toArray, List.length_cons, List.length_nil, Nat.reduceAdd, Nat.reduceSub, Array.replicate_succ, Array.replicate_zero, List.push_toArray, List.append_toArray, List.nil_append, List.cons_append]
  refine wpIn_wide.2 ?_
  go_wp2_with (first
    | (go_at_call 14; (with_reducible refine Calls.mono hH ?_); clear hH; rintro e w2 ⟨v2, rfl, hS2, hb2⟩
       obtain ⟨A, c, rfl, hc, hC⟩ := Kd.S_reads hS2
       replace b4 := b4.below hb2
       replace bs := bs.below hb2
       have hb2w := below_step hB0 hb2
       have hMd := made_any (w := w2) (wvOf l) A c l N hC hc hG
       clear hS2)
    | (go_at_call 15; (with_reducible refine hMd.mono ?_); clear hMd; rintro e w5 ⟨g, rfl, M5⟩
       have hB5 := M5.1
       have P5 := M5.2.bound
       clear M5
       replace b4 := b4.below hB5
       replace bs := bs.below hB5
       have hb5 := below_step hb2w hB5
       have hC5 := Kd.C_below hC hB5
       have hDd := made_doc (w := w5) (wvOf l) A c l N hC5 hc hG)
    | (go_at_call 16; (with_reducible refine hDd.mono ?_); clear hDd; rintro e w6 ⟨g0, vn, vo, rs, rfl, hb6, D6⟩
       obtain ⟨An, cn, rfl⟩ := D6.lies.now.slice
       obtain ⟨Ao, co, rfl⟩ := D6.lies.old.slice
       have D7 := D6.rebox
       have hb7 := below_alloc hb6 (.cells #[.int .i64 N, .int .i64 0, .slice An rs.now.length cn, .slice Ao rs.old.length co] 30)
       have P7 := P5.below hb7
       replace b4 := b4.below hb7
       replace bs := bs.below hb7
       have hb7w := below_step hb5 hb7
       have hWa := Pa.kindlinglaw04_words.calls 200 A c l A1 c1 r1 xs (w6.alloc (.cells #[.int .i64 N, .int .i64 0, .slice An rs.now.length cn, .slice Ao rs.old.length co] 30)) (Kd.C_below hC5 hb7) hc (Kd.C_below hC1 hb7w) h1 hxf
       clear D6)
    | (go_at_call 17; (with_reducible refine hWa.mono ?_); clear hWa; rintro e w8 ⟨va, rfl, hRa, hb8⟩
       obtain ⟨Aa, ca, rfl⟩ := Kd.R_slice hRa
       have hCa := (Kd.R_reads' hRa).2.2
       have hca := (Kd.R_reads' hRa).2.1
       have P8 := P7.below hb8
       have D8 := D7.below hb8
       replace b4 := b4.below hb8
       replace bs := bs.below hb8
       have hb8w := below_step hb7w hb8
       refine Hid.out ?_))
  unfold Hid
  obtain ⟨st, hst⟩ : ∃ st : St, (⟨N, 0, full (wvOf l) l, [], .map []⟩ : St) = st := ⟨_, rfl⟩
  have D9 : DocL (fun k => w5.heap.size ≤ k ∨ w6.heap.size ≤ k) w8 w6.heap.size (.slice An rs.now.length cn) (.slice Ao rs.old.length co) rs st.size st.half st.os [] nowhere := by rw [← hst]; exact D8
  replace D9 : DocL (fun k => (w5.heap.size ≤ k ∨ w6.heap.size ≤ k) ∧ k < w8.heap.size) w8 w6.heap.size (.slice An rs.now.length cn) (.slice Ao rs.old.length co) rs st.size st.half st.os [] nowhere := { D9 with lies := D9.lies.bound }
  rw [hst] at P8
  have hWh := whole_of P8
  have P9 := P8.bound
  have hlo := P8.os_len
  have hOL := Ord.walkP st.f st.os xs
  have hrl : (reachL st xs).length ≤ 65536 := by
    have := hOL.len
    unfold reachL
    split
    · omega
    · exact Nat.zero_le _
  generalize hS1 : (fun k => (w5.heap.size ≤ k ∨ w6.heap.size ≤ k) ∧ k < w8.heap.size) = S1 at D9
  have hS1' : ∀ k, S1 k → k < w8.heap.size := by rw [← hS1]; exact fun k h => h.2
  generalize hS2 : (fun k => (w2.heap.size ≤ k ∧ k < w5.heap.size) ∧ k < w8.heap.size) = S2 at P9
  have hS2' : ∀ k, S2 k → k < w8.heap.size := by rw [← hS2]; exact fun k h => h.2
  generalize hgd : w6.heap.size = gd at D9 ⊢
  obtain ⟨b, hb⟩ : ∃ b, (walkP st.f st.os xs).2 = b := ⟨_, rfl⟩
  have hRR : ∀ W, Below w8.heap.size w8 W → Calls Try.prog 25 #[.pointer (some ⟨gd, 0, none⟩), .slice Aa xs.length ca] W fun e w' => ∃ Av cv, e = .returned (.tuple #[.slice Av (reachL st xs).length cv, .bool b]) ∧
      (Kd.int .i64).R 3 w' 0 (fun _ => True) (.slice Av (reachL st xs).length cv) (reachL st xs) ∧ Below W.heap.size W w' := by
    intro W hbw
    refine (ref_reach (D9.below hbw) Aa ca xs (Kd.C_below hCa hbw) hca hxu (by omega) hWh).mono ?_
    rintro e w' ⟨v, rfl, h1, h2, h3⟩
    have hR : (Kd.int .i64).R 3 w' W.heap.size (fun _ => True) v (reachL st xs) := by
      unfold reachL
      have hb' : (walkP (1 + st.half * st.size) st.os xs).2 = b := hb
      cases b with
      | true => rw [hb]; exact h1 hb'
      | false =>
        rw [hb, h2 hb']
        exact Kd.R_nil _ _ _ _ _
    obtain ⟨Av, cv, rfl⟩ := Kd.R_slice hR
    exact ⟨Av, cv, by rw [show (walkP (1 + st.half * st.size) st.os xs).2 = b from hb], Kd.R_lower hR (Nat.zero_le _), h3⟩
  have hCk := fun W (hbw : Below w8.heap.size w8 W) => check_any (P9.below hbw) Aa ca xs (Kd.C_below hCa hbw) hxu (by omega)
  have hRe := fun W (hbw : Below w8.heap.size w8 W) => reach_any (P9.below hbw) Aa ca xs (Kd.C_below hCa hbw) hxu (by omega)
  rw [hb] at hCk
  generalize reachL st xs = L at *
  have hb4w : w.heap.size + 1 < w8.heap.size := b4.lt
  clear hst hG hxf hHf hfine hC0 hC1 hw P5 hC hB5 hb6 hb7 D7 D8 P7 P8 hRa hC5 hgd hB0 hB00 hB01 hb2 hb8 hb2w hb5 hb7w hb hOL hS1 hS2 hWh hxu hCa
  cases b
  all_goals
    go_wp2_with (first
      | (go_at_call 25; (with_reducible refine (hRR _ (Below.refl _ _)).mono ?_); clear hRR; rintro e w9 ⟨Av, cv, rfl, hRv, hb9⟩
         have hb10 := below_alloc (Below.refl _ w9) (.cells #[.slice Av L.length cv] 23)
         have b12 := Bx.new w9 23 (.slice Av L.length cv)
         have hRv10 := Kd.R_below hRv hb10
         have hb10w := below_step hb9 hb10)
      | (go_at_call 26; (with_reducible refine (hCk _ hb10w).mono ?_); clear hCk; rintro e w11 ⟨rfl, hb11⟩
         have hb11w := below_step hb10w hb11)
      | (go_at_call 27; (with_reducible refine (hRe _ hb11w).mono ?_); clear hRe; rintro e w13 ⟨bo, rfl, hSq, hb13⟩
         have hb13w := below_step hb11w hb13
         have hnn := fun W => seq_there bo W
         refine Hid.out ?_))
    unfold Hid
    obtain ⟨-, Ar, cr, hT1, hT2⟩ := hSq
    have B13 : Base w13.heap.size w w13 stop w9.heap.size bo g gd Av Ar cv cr L S1 S2 st (.slice An rs.now.length cn) (.slice Ao rs.old.length co) rs :=
      { b4 := b4.below hb13w, bs := bs.below hb13w, b12 := b12.below (below_step hb11 hb13), t1 := hT1, t2 := Kd.R_lower hT2 (Nat.zero_le _), rv := Kd.R_below hRv10 (below_step hb11 hb13), m := P9.below hb13w, d := D9.below hb13w, bw := below_step hb8w hb13w,
        l4 := Nat.lt_of_lt_of_le hb4w hb13w.size, l12 := (b12.below (below_step hb11 hb13)).lt, lo := blk_lt hT1, l2 := Kd.R_lt hT2, lv := Kd.R_lt (Kd.R_below hRv10 (below_step hb11 hb13)), lm := fun k h => Nat.lt_of_lt_of_le (hS2' k h) hb13w.size, ld := fun k h => Nat.lt_of_lt_of_le (hS1' k h) hb13w.size }
    generalize w9.heap.size = ob at B13 ⊢
    have hbn := blk_new w13 (.cells #[.int .i64 0] 3)
    have B14 := B13.fr (T := fun _ => False) (Fr.of_below (below_alloc (Below.refl _ w13) (.cells #[.int .i64 0] 3))) (fun k h => h.elim)
    have hsz14 : (w13.alloc (.cells #[.int .i64 0] 3)).heap.size = w13.heap.size + 1 := World.size_alloc _ _
    clear b4 bs hb13w hb11w hb10w hb13 hb11 hRv hRv10 b12 hb10 hT1 hT2 B13 P9 D9 hb8w hb9 hS1' hS2' hb4w
    go_wp2_with fail
    generalize w13.alloc (.cells #[.int .i64 0] 3) = w14 at hbn B14 hsz14 ⊢
    generalize w13.heap.size = bn at hbn B14 hsz14 ⊢
    have hK0 : Cnt w14 bn ((0 : Nat) : Int) w14 := ⟨hbn, Fr.refl _ _⟩
    refine (wpIn_wide (n := 5)).1 ?_
    refine' range_leave (F := Fence.wide) (n := 5) rfl (by omega) (gf := 65) (lb := #[.pointer (some ⟨bo, 0, none⟩)]) rfl trivial (enters_of Try.func65 (by kernel_rfl) rfl)
      (encs := fun k => #[.int .i64 (rdOf 0 L (k : Int))]) (N := L.length) 0 (fun k W => Cnt w14 bn (k : Int) W) (fun W => ∃ k : Nat, Cnt w14 bn (k : Int) W)
      (w0 := w14) (reach_feedsS Fence.wide (5 - 1) trivial rfl (by omega) bo L _ w14 Ar cr (by omega) (fun k W K => ⟨(B14.fr K.2 (fun j h => by omega)).t1, (B14.fr K.2 (fun j h => by omega)).t2⟩)) (Below.refl _ _) (fun _ => rfl) ?own ?ownx ?h0 (fun _ _ h => h) _ ?assign ?body ?done
    case own =>
      intro k W W' row K hg hr
      exact K.kept hg hr (Nat.le_refl _)
    case ownx =>
      rintro _ W W' row ⟨k, K⟩ hg hr
      exact ⟨k, K.kept hg hr (Nat.le_refl _)⟩
    case h0 => exact hK0
    case assign =>
      intro l k W K' hK
      gi_wp2
      exact hK
    case body =>
      intro l k W K hk
      have Bk := B14.fr K.2 (fun j h => by omega)
      have hcn : W.cell? ⟨bn, 0, none⟩ = some (.int .i64 (k : Int)) := (blk_cell K.1 0).trans rfl
      have hfn := blk_frozen K.1 0
      have hcs := Bk.bs.cell
      have hne : bn ≠ w.heap.size := by have := B14.l4; omega
      have hcs2 : (W.setCell ⟨bn, 0, none⟩ (.int .i64 ((k : Int) + 1))).cell? ⟨w.heap.size, 0, none⟩ = some (.int .i64 stop) := (blk_cell (blk_far Bk.bs (p := ⟨bn, 0, none⟩) (fun e => hne e.symm) _) 0).trans rfl
      have hcn2 : (W.setCell ⟨bn, 0, none⟩ (.int .i64 ((k : Int) + 1))).cell? ⟨bn, 0, none⟩ = some (.int .i64 ((k : Int) + 1)) := (blk_cell (blk_put K.1 0 (.int .i64 ((k : Int) + 1)) rfl) 0).trans rfl
      have hkl : (k : Int) + 1 ≤ 1000000 := by omega
      have hw1 : IntKind.i64.wrap ((k : Int) + 1) = (k : Int) + 1 := wr64 (by omega)
      by_cases hst : stop ≤ (k : Int) + 1
      · have t1 : decide (stop ≤ (k : Int) + 1) = true := decide_eq_true hst
        gi_wp2_with fail
        exact ⟨keeps_put K.1, rfl, k + 1, by
          have := K.put ((k : Int) + 1)
          exact this⟩
      · have t1 : decide (stop ≤ (k : Int) + 1) = false := decide_eq_false hst
        gi_wp2_with fail
        exact ⟨keeps_put K.1, by
          have := K.put ((k : Int) + 1)
          exact this⟩
    case done =>
      intro D1 W1 hD1 hor hdf1
      obtain ⟨k1, K1⟩ : ∃ k : Nat, Cnt w14 bn (k : Int) W1 := by
        rcases hor with h | h
        · exact ⟨_, h⟩
        · exact h
      have B15 := B14.fr K1.2 (fun j h => by omega)
      have hsz1 := K1.2.low.size
      have hbi := blk_new W1 (.cells #[.int .i64 0] 3)
      have B16 := B15.fr (T := fun _ => False) (Fr.of_below (below_alloc (Below.refl _ W1) (.cells #[.int .i64 0] 3))) (fun k h => h.elim)
      have hd16 : (W1.alloc (.cells #[.int .i64 0] 3)).heap[D1]? = some (.deferred (some [])) := blk_alloc hdf1 _
      have hsz16 : (W1.alloc (.cells #[.int .i64 0] 3)).heap.size = W1.heap.size + 1 := World.size_alloc _ _
      have hD1l : D1 < W1.heap.size := blk_lt hdf1
      clear B15 B14 K1 hor hK0 hbn hdf1
      go_wp2_with fail
      have hbi1 : bn + 1 ≤ W1.heap.size := by omega
      generalize W1.alloc (.cells #[.int .i64 0] 3) = w16 at hbi B16 hsz16 hd16 ⊢
      generalize W1.heap.size = bi at hbi B16 hsz16 hD1l hbi1 ⊢
      have hK0 : Cnt w16 bi ((0 : Nat) : Int) w16 := ⟨hbi, Fr.refl _ _⟩
      refine (wpIn_wide (n := 5)).1 ?_
      refine' range_all (F := Fence.wide) (n := 5) rfl (by omega) (gf := 65) (lb := #[.pointer (some ⟨bo, 0, none⟩)]) rfl trivial (enters_of Try.func65 (by kernel_rfl) rfl)
        (encs := fun k => #[.int .i64 (rdOf 0 L (k : Int))]) (N := L.length) (fun k W => Cnt w16 bi (k : Int) W)
        (w0 := w16) (reach_feeds Fence.wide (5 - 1) trivial rfl (by omega) bo L _ w16 Ar cr (by omega) (fun k W K => ⟨(B16.fr K.2 (fun j h => by omega)).t1, (B16.fr K.2 (fun j h => by omega)).t2⟩)) (Below.refl _ _) (fun _ => rfl) ?own ?h0 _ ?assign ?body ?done
      case own =>
        intro k W W' row K hg hr
        exact K.kept hg hr (Nat.le_refl _)
      case h0 => exact hK0
      case assign =>
        intro l k W K' hK
        gi_wp2
        exact hK
      case body =>
        intro l k W K hk
        have Bk := B16.fr K.2 (fun j h => by omega)
        have hcn : W.cell? ⟨bi, 0, none⟩ = some (.int .i64 (k : Int)) := (blk_cell K.1 0).trans rfl
        have hfn := blk_frozen K.1 0
        have hc12 := Bk.b12.cell
        obtain ⟨ad, e2, hrd⟩ := Kd.at_int (Kd.R_reads' Bk.rv).2.2 (k : Int) (by omega) (by omega)
        subst e2
        rw [Int.toNat_natCast] at hrd
        have hkl : (k : Int) + 1 ≤ 1000000 := by omega
        have hw1 : IntKind.i64.wrap ((k : Int) + 1) = (k : Int) + 1 := wr64 (by omega)
        have t1 : decide ((k : Int) ≥ (L.length : Int)) = false := decide_eq_false (by omega)
        have t1n : decide (L.length ≤ k) = false := decide_eq_false (by omega)
        have t2 : decide (0 ≤ (k : Int)) = true := decide_eq_true (by omega)
        have t3 : (k < L.length) = True := eq_true hk
        have t4 : (L.length ≤ k) = False := eq_false (by omega)
        have hre : rd L (k : Int) = rdOf 0 L (k : Int) := rfl
        rw [hre] at hrd
        generalize rdOf 0 L (k : Int) = a at *
        gi_wp2_with fail
        exact ⟨keeps_put K.1, by
          have := K.put ((k : Int) + 1)
          exact this⟩
      case done =>
        intro D2 W2 hD2 K2 hd2
        have B17 := B16.fr K2.2 (fun j h => by omega)
        have hcn : W2.cell? ⟨bi, 0, none⟩ = some (.int .i64 (L.length : Int)) := (blk_cell K2.1 0).trans rfl
        have hc12 := B17.b12.cell
        have hd1 : W2.heap[D1]? = some (.deferred (some [])) := (K2.2.same D1 (blk_lt hd16) (by omega)).trans hd16
        have hSm := fun W (hb : Below W2.heap.size W2 W) => same_any (B17.m.below hb) (B17.d.below hb)
        have hs2 := K2.2.low.size
        have hbe : ((L.length : Int) == (L.length : Int)) = true := beq_iff_eq.2 rfl
        clear K2 hK0
        go_wp2_with (first
          | (go_at_call 22; (with_reducible refine (hSm _ (Below.refl _ _)).mono ?_); clear hSm; rintro e w18 ⟨rfl, hb18⟩)
          | (go_at_call 24; (with_reducible refine (known_any _).mono ?_); rintro e w19 ⟨rfl, hb19⟩
             have hb19k := below_step hb18 hb19
             have b4v := B17.b4.below hb19k
             have c4 := b4v.cell
             have f4 := b4v.frozen))
        have hb19o := below_step B17.bw hb19k
        have hl4 := B17.l4
        have k1 : w19.heap[D1]? = some (.deferred (some [])) := (hb19k.block _ (blk_lt hd1)).trans hd1
        have k2 : w19.heap[D2]? = some (.deferred (some [])) := (hb19k.block _ (blk_lt hd2)).trans hd2
        have b4m : Bx (w19.setCell ⟨w.heap.size + 1, 0, none⟩ (.bool true)) (w.heap.size + 1) 4 (.bool true) := blk_put b4v 0 _ rfl
        have j1 : (w19.setCell ⟨w.heap.size + 1, 0, none⟩ (.bool true)).heap[D1]? = some (.deferred (some [])) := (Below.heap_setCell w19 ⟨w.heap.size + 1, 0, none⟩ _ D1 (by show D1 ≠ w.heap.size + 1; omega)).trans k1
        have j2 : (w19.setCell ⟨w.heap.size + 1, 0, none⟩ (.bool true)).heap[D2]? = some (.deferred (some [])) := (Below.heap_setCell w19 ⟨w.heap.size + 1, 0, none⟩ _ D2 (by show D2 ≠ w.heap.size + 1; omega)).trans k2
        have hne : D1 ≠ D2 := by have := blk_lt hd16; omega
        have j1' : ((w19.setCell ⟨w.heap.size + 1, 0, none⟩ (.bool true)).putObj D2 (.deferred none)).heap[D1]? = some (.deferred (some [])) := (World.putObj_heap_other hne).trans j1
        refine ⟨by simp, .inl ⟨_, _, rfl, run_takeDeferred j2, by simp, .inl ⟨_, _, rfl, run_takeDeferred j1', ?_⟩⟩⟩
        have b4n : Bx ((w19.setCell ⟨w.heap.size + 1, 0, none⟩ (.bool true)).putObj D2 (.deferred none)) (w.heap.size + 1) 4 (.bool true) := (World.putObj_heap_other (by omega)).trans b4m
        have b4o : Bx (((w19.setCell ⟨w.heap.size + 1, 0, none⟩ (.bool true)).putObj D2 (.deferred none)).putObj D1 (.deferred none)) (w.heap.size + 1) 4 (.bool true) := (World.putObj_heap_other (by omega)).trans b4n
        have hbS := below_set (j := 0) (v := .bool true) hb19o (show w.heap.size ≤ w.heap.size + 1 from Nat.le_succ _)
        exact ⟨_, results_cell1 rfl _ _ ⟨w.heap.size + 1, 0, none⟩ _ rfl (load4b _ _ _ b4o.cell), rfl, (hbS.grown (grownBy_putObj' _ D2 (.deferred none)) hbS.size (fun k e => by cases e; omega)).grown (grownBy_putObj' _ D1 (.deferred none)) (by have := hbS.size; simp [World.putObj] at this ⊢; omega) (fun k e => by cases e; omega)⟩
theorem reaches_walk (a0 : Option Addr) (c0 : Nat) (l0 : List S71) (a1 : Option Addr) (len1 cap1 : Nat) (z1 : List Int) (stop : Int) (w : World) (h0 : l0.length ≤ c0) (hC0 : Kd.C k71 w a0 l0.length l0) (hw : ∀ o ∈ l0, wf71 o)
    (w1 : (a1 = none ∧ len1 = 0 ∧ cap1 = 0 ∧ z1 = []) ∨ ∃ x, a1 = some x ∧ len1 ≤ cap1 ∧ cap1 ≤ maxLen ∧ z1.length = cap1 ∧ (∀ i, i < z1.length → w.cell? (x.add i) = some (.int .i64 (z1.getD i 0))) ∧ ∀ n ∈ z1, (Lit.int .i64 n).wf = true) (y1 : len1 * 8 ≤ 140737488351232) (_ : (Lit.int .i64 stop).wf = true) :
    Calls Try.prog 4 #[.slice a0 l0.length c0, .slice a1 len1 cap1, .int .i64 stop] w fun e w' => e = .returned (.bool true) ∧ Below w.heap.size w w' := by
  obtain ⟨l1, rfl, hr1, hm1, hw1, hc1⟩ := ReadsInt.ofRowC w1
  exact reaches_any a0 c0 l0 a1 cap1 l1 stop w h0 hC0 hw (Kd.C_of_reads (d := (0 : Int)) (h1 := fun _ => rfl) hr1) hc1
end Go.Proofs.Ytjccaojlldkmpaa.Rm
