/- The law GcLives, walked. -/
import Derived.Test.YtjccaojlldkmpaaRm8
namespace Go.Proofs.Ytjccaojlldkmpaa.Rm
open Go.RowKit Go.Proofs.YtjccaojlldkmpaaW.PrintWords Go.Proofs.YtjccaojlldkmpaaW.PrintLast Go.Proofs.YtjccaojlldkmpaaW.PrintMore
open Mem
open Hf (rightB right_parts)
open Pa (S71 k71 z71 rd_T71 at_T71 S87 k87)
open Open4 (i64 wf71)
set_option linter.unusedSimpArgs false
set_option linter.unusedVariables false
set_option maxRecDepth 100000
variable {S Sm : Nat → Prop} {w w' W : World} {g gd c : Nat} {vn vo v : Value} {rs : RS} {l : List P5} {size half : Int} {os olds : List O} {tz : Nat → Int} {st : St}
theorem whole_of (M : IsMem Sm w g st) : Whole st.os := fun o ho => by
  obtain ⟨i, hi, rfl⟩ := List.mem_iff_getElem.1 ho
  have h := parts_of M i hi
  refine ⟨⟨h.2.2.1, h.2.2.2⟩, fun x hx => ?_⟩
  obtain ⟨j, hj, rfl⟩ := List.mem_iff_getElem.1 hx
  have := word_u64 M i hi j hj
  simpa [List.getD, hj] using this
attribute [local go_sem] Oper.semAt_some
set_option maxHeartbeats 8000000 in
theorem lives_any (A0 : Option Addr) (c0 : Nat) (l0 : List S71) (A1 : Option Addr) (c1 : Nat) (r1 : List Int) (w : World) (h0 : l0.length ≤ c0) (hC0 : Kd.C k71 w A0 l0.length l0) (hw : ∀ o ∈ l0, wf71 o)
    (hC1 : Kd.C (Kd.int .i64) w A1 r1.length r1) (h1 : r1.length ≤ c1) :
    Calls Try.prog 5 #[.slice A0 l0.length c0, .slice A1 r1.length c1] w fun e w' => e = .returned (.bool true) ∧ Below w.heap.size w w' := by
  have hu30 := Try.underlying30
  obtain ⟨m, l, hHf, hl40, hfine⟩ := heap_f l0 hw
  have hG := fine_gl l hl40 hfine
  obtain ⟨xs, hxf, hx50, hxu⟩ := words_f l hl40 hfine r1
  obtain ⟨N, hN⟩ : ∃ N : Int, 64 + (adr l l.length : Int) = N := ⟨_, rfl⟩
  rw [hN] at hHf hG
  have hH := Pa.kindlingref04_Heap.calls m A0 c0 l0 l N w hC0 h0 hHf
  clear hN
  go_enter Try.func5, Try.ntmps5
  go_wp2_with (first
    | (go_at_call 14; (with_reducible refine Calls.mono hH ?_); clear hH; rintro e w2 ⟨v2, rfl, hS2, hb2⟩
       obtain ⟨A, c, rfl, hc, hC⟩ := Kd.S_reads hS2
       have hMd := made_any (w := w2) (wvOf l) A c l N hC hc hG
       clear hS2)
    | (go_at_call 15; (with_reducible refine hMd.mono ?_); clear hMd; rintro e w5 ⟨g, rfl, M5⟩
       have hB5 := M5.1
       have P5 := M5.2.bound
       clear M5
       have hb5 := below_step hb2 hB5
       have hC5 := Kd.C_below hC hB5
       have hDd := made_doc (w := w5) (wvOf l) A c l N hC5 hc hG)
    | (go_at_call 16; (with_reducible refine hDd.mono ?_); clear hDd; rintro e w6 ⟨g0, vn, vo, rs, rfl, hb6, D6⟩
       obtain ⟨An, cn, rfl⟩ := D6.lies.now.slice
       obtain ⟨Ao, co, rfl⟩ := D6.lies.old.slice
       have D7 := D6.rebox
       have hb7 := below_alloc hb6 (.cells #[.int .i64 N, .int .i64 0, .slice An rs.now.length cn, .slice Ao rs.old.length co] 30)
       have P7 := P5.below hb7
       have hb7w := below_step hb5 hb7
       have hWa := Pa.kindlinglaw04_words.calls 200 A c l A1 c1 r1 xs (w6.alloc (.cells #[.int .i64 N, .int .i64 0, .slice An rs.now.length cn, .slice Ao rs.old.length co] 30)) (Kd.C_below hC5 hb7) hc (Kd.C_below hC1 hb7w) h1 hxf
       clear D6)
    | (go_at_call 17; (with_reducible refine hWa.mono ?_); clear hWa; rintro e w8 ⟨va, rfl, hRa, hb8⟩
       obtain ⟨Aa, ca, rfl⟩ := Kd.R_slice hRa
       have hCa := (Kd.R_reads' hRa).2.2
       have hca := (Kd.R_reads' hRa).2.1
       have P8 := P7.below hb8
       have D8 := D7.below hb8
       have hb8w := below_step hb7w hb8
       refine Hid.out ?_))
  unfold Hid
  obtain ⟨st, hst⟩ : ∃ st : St, (⟨N, 0, full (wvOf l) l, [], .map []⟩ : St) = st := ⟨_, rfl⟩
  have D9 : DocL (fun k => w5.heap.size ≤ k ∨ w6.heap.size ≤ k) w8 w6.heap.size (.slice An rs.now.length cn) (.slice Ao rs.old.length co) rs st.size st.half st.os [] nowhere := by rw [← hst]; exact D8
  rw [hst] at P8
  have hWh := whole_of P8
  generalize hgd : w6.heap.size = gd at D9 ⊢
  clear hst hG hxf hHf hfine hC0 hC1 hw P5 hC hB5 hb6 hb7 D7 D8 P7 hRa hC5 hgd
  cases hb : walkP st.f st.os xs with
  | mk L ok =>
  cases ok with
  | false =>
    have hLv := live_no P8 Aa ca xs hCa hxu (by omega) (by rw [hb])
    have hLr := fun W (hb8 : Below w8.heap.size w8 W) => ref_live_no (D9.below hb8) Aa ca xs (Kd.C_below hCa hb8) hca hxu (by omega) hWh (by rw [show 1 + st.half * st.size = st.f from rfl, hb])
    have hSm := fun W (hb8 : Below w8.heap.size w8 W) => same_any (P8.below hb8) (D9.below hb8)
    clear hb
    go_wp2_with (first
      | (go_at_call 28; (with_reducible refine hLv.mono ?_); clear hLv; rintro e w9 ⟨rfl, hb9⟩)
      | (go_at_call 29; (with_reducible refine (hLr _ hb9).mono ?_); clear hLr; rintro e w10 ⟨rfl, hb10⟩
         have hb10w := below_step hb9 hb10)
      | (go_at_call 22; (with_reducible refine (hSm _ hb10w).mono ?_); clear hSm; rintro e w11 ⟨rfl, hb11⟩
         have hb11w := below_step hb10w hb11)
      | (go_at_call 24; (with_reducible refine (known_any _).mono ?_); rintro e w12 ⟨rfl, hb12⟩))
    go_ret
    exact ⟨rfl, below_step hb8w (below_step hb11w hb12)⟩
  | true =>
    have hLv := live_any P8 Aa ca xs hCa hxu (by omega) hb
    have hLr := fun W (hb8 : Below w8.heap.size w8 W) => ref_live_yes (D9.below hb8) Aa ca xs (Kd.C_below hCa hb8) hca hxu (by omega) hWh hb
    have hSm := fun W (hb8 : Below w8.heap.size w8 W) => same_any (P8.below hb8) (D9.below hb8)
    rw [show 1 + st.half * st.size = st.f from rfl] at hLr
    generalize (flat (L.map (obAt st.f st.os))).length = fl at *
    clear hb
    go_wp2_with (first
      | (go_at_call 28; (with_reducible refine hLv.mono ?_); clear hLv; rintro e w9 ⟨rfl, hb9⟩)
      | (go_at_call 29; (with_reducible refine (hLr _ hb9).mono ?_); clear hLr; rintro e w10 ⟨rfl, hb10⟩
         have hb10w := below_step hb9 hb10)
      | (go_at_call 22; (with_reducible refine (hSm _ hb10w).mono ?_); clear hSm; rintro e w11 ⟨rfl, hb11⟩
         have hb11w := below_step hb10w hb11)
      | (go_at_call 24; (with_reducible refine (known_any _).mono ?_); rintro e w12 ⟨rfl, hb12⟩))
    go_ret
    exact ⟨rfl, below_step hb8w (below_step hb11w hb12)⟩
theorem lives_walk (a0 : Option Addr) (c0 : Nat) (l0 : List S71) (a1 : Option Addr) (len1 cap1 : Nat) (z1 : List Int) (w : World) (h0 : l0.length ≤ c0) (hC0 : Kd.C k71 w a0 l0.length l0) (hw : ∀ o ∈ l0, wf71 o)
    (w1 : (a1 = none ∧ len1 = 0 ∧ cap1 = 0 ∧ z1 = []) ∨ ∃ x, a1 = some x ∧ len1 ≤ cap1 ∧ cap1 ≤ maxLen ∧ z1.length = cap1 ∧ (∀ i, i < z1.length → w.cell? (x.add i) = some (.int .i64 (z1.getD i 0))) ∧ ∀ n ∈ z1, (Lit.int .i64 n).wf = true) (y1 : len1 * 8 ≤ 140737488351232) :
    Calls Try.prog 5 #[.slice a0 l0.length c0, .slice a1 len1 cap1] w fun e w' => e = .returned (.bool true) ∧ Below w.heap.size w w' := by
  obtain ⟨l1, rfl, hr1, hm1, hw1, hc1⟩ := ReadsInt.ofRowC w1
  exact lives_any a0 c0 l0 a1 cap1 l1 w h0 hC0 hw (Kd.C_of_reads (d := (0 : Int)) (h1 := fun _ => rfl) hr1) hc1
end Go.Proofs.Ytjccaojlldkmpaa.Rm
