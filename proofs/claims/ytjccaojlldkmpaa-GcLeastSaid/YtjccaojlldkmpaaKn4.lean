/- What comes of the law's fixed calls. -/
import Derived.Test.YtjccaojlldkmpaaMd
import Derived.Test.YtjccaojlldkmpaaGd
import Derived.Test.YtjccaojlldkmpaaGe
import Derived.Test.YtjccaojlldkmpaaPa1
namespace Go.Proofs.Ytjccaojlldkmpaa.Mem
open Go.RowKit Go.Proofs.YtjccaojlldkmpaaW.PrintWords Go.Proofs.YtjccaojlldkmpaaW.PrintLast Go.Proofs.YtjccaojlldkmpaaW.PrintMore
open Hf (rightB hdr headOf partsOf)
set_option linter.unusedSimpArgs false
set_option linter.unusedVariables false
open Pa (S71 k71 z71 rd_T71 at_T71)
set_option maxRecDepth 100000
variable {S : Nat → Prop} {w W W' w' : World} {g n B : Nat} {st : St}
def kl0 : List S71 := [⟨0, 0, [-5, 0], 0⟩, ⟨0, 0, [-7], 0⟩]
def kl1 : List S71 := [⟨1, 2, [-5, 0], 0⟩, ⟨1, 1, [-7], 0⟩]
def kwv (k f : Nat) : Int := if k = 0 then (if f = 0 then 5 else 2) else 7
theorem kheap : Pa.kindlingref04_Heap.f 40 kl0 = some (kl1, 69) := by kernel_rfl
theorem kword : Pa.kindlingref04_Word.f 9 kl1 0 0 = some 5 ∧ Pa.kindlingref04_Word.f 9 kl1 0 1 = some 2 ∧ Pa.kindlingref04_Word.f 9 kl1 1 0 = some 7 := by
  refine ⟨?_, ?_, ?_⟩ <;> kernel_rfl
theorem kgl : Gl kwv kl1 69 where
  len := by decide
  r := by
    intro o ho
    simp only [kl1, List.mem_cons, List.not_mem_nil, or_false] at ho
    rcases ho with rfl | rfl <;> rfl
  fit := by decide
  n := by decide
  wr := by
    intro k f
    unfold kwv
    split
    · split <;> omega
    · omega
  wd := by
    intro k hk f hf
    refine ⟨9, ?_⟩
    rcases k with _ | _ | k
    · have hf : f < 2 := hf
      rcases f with _ | _ | f
      · exact kword.1
      · exact kword.2.1
      · omega
    · have hf : f < 1 := hf
      rcases f with _ | f
      · exact kword.2.2
      · omega
    · have hk : k + 1 + 1 < 2 := hk
      omega
theorem kfull : full kwv kl1 = [⟨1, 2, [5, 2]⟩, ⟨1, 1, [7]⟩] := by kernel_rfl
theorem kwalk : walkP 1 [⟨1, 2, [5, 2]⟩, ⟨1, 1, [7]⟩] [2] = ([1], true) := by kernel_rfl
/-- A row that is laid out at once. -/
theorem lit_R {α : Type} (d : Kd α) {W : World} {base e : Nat} {xs : List α} {inner : List Value} {okp : Nat → Prop} (hrep : Reps (d.M W base okp) d.sz xs inner) (hbase : base ≤ W.heap.size) (hm : xs.length ≤ 9223372036854775807) :
    d.R e (W.alloc (.cells inner.toArray e)) base (fun _ => True) (.slice (some ⟨W.heap.size, 0, none⟩) xs.length xs.length) xs := by
  refine ⟨fun k hk => trivial, inner, ?_, ?_⟩
  · have h2 := World.ownsRow_lit (base := base) (e := e) (size := d.sz) W inner.toArray xs.length hbase (by simpa [maxLen] using hm) (by simpa using hrep.1)
    simpa using h2
  · refine hrep.imp_ (fun p c hp => d.M_mono (fun k hk => ⟨trivial, fun he => ?_⟩) (Kd.M_below (d.M_bound hp) (below_alloc (Below.refl _ _) _)))
    have h3 : k = W.heap.size := by simpa [Value.ownBlock] using he
    have := hk.2.2.1
    omega
theorem IsMem.half (M : IsMem S w g st) : Calls Try.prog 30 #[.pointer (some ⟨g, 0, none⟩)] w fun e w' => e = .returned (.int .i64 st.half) ∧ w' = w := by
  obtain ⟨vw, vh, ow, oh, mb, n, L⟩ := M
  exact half_any L.H
theorem kC (w : World) : Kd.C k71 (((w.alloc (.cells #[.int .i64 (-5), .int .i64 0] 3)).alloc (.cells #[.int .i64 (-7)] 3)).alloc (.cells #[.int .i64 0, .int .i64 0, .slice (some ⟨w.heap.size, 0, none⟩) 2 2, .int .i64 0, .int .i64 0, .int .i64 0, .slice (some ⟨w.heap.size + 1, 0, none⟩) 1 1, .int .i64 0] 71)) (some ⟨w.heap.size + 1 + 1, 0, none⟩) 2 kl0 := by
  have r1 := Kd.R_alloc (lit_R (Kd.int .i64) (W := w) (base := w.heap.size) (e := 3) (xs := [-5, 0]) (inner := [.int .i64 (-5), .int .i64 0]) (okp := fun _ => True) (Kd.reps_scalar [-5, 0]) (Nat.le_refl _) (by decide)) (.cells #[.int .i64 (-7)] 3)
  have r2 := lit_R (Kd.int .i64) (W := w.alloc (.cells #[.int .i64 (-5), .int .i64 0] 3)) (base := w.heap.size) (e := 3) (xs := [-7]) (inner := [.int .i64 (-7)]) (okp := fun _ => True) (Kd.reps_scalar [-7]) (by rw [World.size_alloc]; omega) (by decide)
  rw [World.size_alloc] at r2
  have r3 := lit_R k71 (W := (w.alloc (.cells #[.int .i64 (-5), .int .i64 0] 3)).alloc (.cells #[.int .i64 (-7)] 3)) (base := w.heap.size) (e := 71) (xs := kl0)
    (inner := [.int .i64 0, .int .i64 0, .slice (some ⟨w.heap.size, 0, none⟩) 2 2, .int .i64 0, .int .i64 0, .int .i64 0, .slice (some ⟨w.heap.size + 1, 0, none⟩) 1 1, .int .i64 0]) (okp := fun _ => True)
    (Reps.c4 (Pa.k71_mkM _ _ _ ⟨0, 0, [-5, 0], 0⟩ r1) (Reps.c4 (Pa.k71_mkM _ _ _ ⟨0, 0, [-7], 0⟩ r2) (Reps.none _ _))) (by rw [World.size_alloc, World.size_alloc]; omega) (by decide)
  rw [World.size_alloc, World.size_alloc] at r3
  exact (Kd.R_reads' r3).2.2
def kst : St := ⟨69, 0, full kwv kl1, [], .map []⟩
theorem kst_walk : walkP kst.f kst.os [2] = ([1], true) := by kernel_rfl
theorem kst_live : (flat ([1].map (obAt kst.f kst.os))).length = 3 := by kernel_rfl
theorem kst_after (D : DataW Unit) : (flat (cst kst ([1].map fun a => mapO (cw kst.f2 kst.f kst.os [1]) (obAt kst.f kst.os a).tag.toNat (obAt kst.f kst.os a)) D).os).length = 3 := by
  show (flat ([1].map fun a => mapO (cw kst.f2 kst.f kst.os [1]) (obAt kst.f kst.os a).tag.toNat (obAt kst.f kst.os a))).length = 3
  kernel_rfl
theorem two_C (w : World) : Kd.C (Kd.int .u64) (w.alloc (.cells #[.int .u64 2] 56)) (some ⟨w.heap.size, 0, none⟩) [(2 : Int)].length [2] :=
  (Kd.R_reads' (lit_R (Kd.int .u64) (W := w) (base := w.heap.size) (e := 56) (xs := [2]) (inner := [.int .u64 2]) (okp := fun _ => True) (Kd.reps_scalar [2]) (Nat.le_refl _) (by decide))).2.2
theorem known_any (w : World) : Calls Try.prog 24 #[] w fun e W => e = .returned (.bool true) ∧ Below w.heap.size w W := by
  have hH : Calls Try.prog 14 #[.slice (some ⟨w.heap.size + 1 + 1, 0, none⟩) 2 2] _ _ := Pa.kindlingref04_Heap.calls 40 (some ⟨w.heap.size + 1 + 1, 0, none⟩) 2 kl0 kl1 69 _ (kC w) (Nat.le_refl _) kheap
  have hx2 : ∀ x ∈ [(2 : Int)], 0 ≤ x ∧ x < 18446744073709551616 := fun x h => by rw [List.mem_singleton] at h; omega
  go_enter Try.func24, Try.ntmps24
  go_wp2_with (first
    | (go_at_call 14; (with_reducible refine Calls.mono hH ?_); clear hH; rintro e w4 ⟨v4, rfl, hS4, hb4⟩
       obtain ⟨A4, c4, rfl, hc4, hC4⟩ := Kd.S_reads hS4
       have hMd := made_any (w := w4) kwv A4 c4 kl1 69 hC4 hc4 kgl
       clear hC4 hc4 hS4)
    | (go_at_call 15; (with_reducible refine hMd.mono ?_); clear hMd; rintro e w5 ⟨g, rfl, M5⟩
       have hB5 := M5.1
       have P5 := M5.2.bound
       replace P5 : IsMem (fun k => w4.heap.size ≤ k ∧ k < w5.heap.size) w5 g kst := P5
       clear M5
       have P6 := P5.below (below_alloc (Below.refl _ w5) (.cells #[.int .u64 2] 56))
       have hLv : Calls Try.prog 28 #[.pointer (some ⟨g, 0, none⟩), .slice (some ⟨w5.heap.size, 0, none⟩) 1 1] (w5.alloc (.cells #[.int .u64 2] 56)) _ := live_any P6 (some ⟨w5.heap.size, 0, none⟩) 1 [2] (two_C w5) hx2 (by decide) kst_walk
       rw [kst_live] at hLv)
    | (go_at_call 28; (with_reducible refine hLv.mono ?_); clear hLv; rintro e w7 ⟨rfl, hb7⟩
       have P7 := P6.below hb7
       rw [World.size_alloc] at hb7
       have P8 := P7.below (below_alloc (Below.refl _ w7) (.cells #[.int .u64 2] 56))
       have hb47 : w5.heap.size + 1 ≤ w7.heap.size := by have := hb7.size; rw [World.size_alloc] at this; exact this
       have hCo : Calls Try.prog 19 #[.pointer (some ⟨g, 0, none⟩), .slice (some ⟨w7.heap.size, 0, none⟩) 1 1] (w7.alloc (.cells #[.int .u64 2] 56)) _ := collect_any P8 (fun k h => by rw [World.size_alloc]; omega) (some ⟨w7.heap.size, 0, none⟩) 1 [2] (two_C w7) hx2 (by decide) (fun ad h => by cases h; refine ⟨?_, by rw [World.size_alloc]; exact Nat.lt_succ_self _⟩; intro h; exact absurd h.2 (by show ¬ w7.heap.size < w5.heap.size; omega)) kst_walk)
    | (go_at_call 19; (with_reducible refine hCo.mono ?_); clear hCo; rintro e w9 ⟨S9, B9, d9, D9, rfl, M9, hu9, hl9, hn9, ho9, hf9⟩
       have hHf : Calls Try.prog 30 #[.pointer (some ⟨g, 0, none⟩)] w9 fun e w' => e = .returned (.int .i64 1) ∧ w' = w9 := M9.half
       have hFr := M9.free
       rw [kst_after D9] at hFr
       replace hFr : Calls Try.prog 32 #[.pointer (some ⟨g, 0, none⟩)] w9 fun e w' => e = .returned (.int .i64 66) ∧ Drawn0 w9 w' := hFr)
    | (go_at_call 30; (with_reducible refine hHf.mono ?_); clear hHf; rintro e w10 ⟨rfl, rfl⟩)
    | (go_at_call 32; (with_reducible refine hFr.mono ?_); clear hFr; rintro e w11 ⟨rfl, hd11⟩))
  go_ret
  have h2 := below_step (below_alloc (below_alloc (below_alloc (Below.refl w.heap.size w) (.cells #[.int .i64 (-5), .int .i64 0] 3)) (.cells #[.int .i64 (-7)] 3)) _) hb4
  have h3 := below_step h2 hB5
  have h5 := below_step (below_alloc h3 (.cells #[.int .u64 2] 56)) (by rw [World.size_alloc]; exact hb7)
  have h6 := below_alloc h5 (.cells #[.int .u64 2] 56)
  have h7 : Below w.heap.size w w10 := ⟨hf9.low.os.trans h6.os, hf9.low.tape.trans h6.tape, hf9.low.output.trans h6.output, Nat.le_trans h6.size hf9.low.size, fun k hk => (hf9.same k (Nat.lt_of_lt_of_le hk h6.size) (fun h => by have := h.1; have := h2.size; omega)).trans (h6.block k hk)⟩
  exact ⟨rfl, below_step h7 hd11.below⟩
end Go.Proofs.Ytjccaojlldkmpaa.Mem
