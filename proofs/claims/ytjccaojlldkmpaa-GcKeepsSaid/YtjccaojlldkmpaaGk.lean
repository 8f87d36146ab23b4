/- The law GcKeeps, walked. -/
import Derived.Test.YtjccaojlldkmpaaKb
namespace Go.Proofs.Ytjccaojlldkmpaa.Mem
open Go.RowKit Go.Proofs.YtjccaojlldkmpaaW.PrintWords Go.Proofs.YtjccaojlldkmpaaW.PrintLast Go.Proofs.YtjccaojlldkmpaaW.PrintMore
open Hf (rightB hdr headOf partsOf)
open Pa (S71 k71 z71 rd_T71 at_T71)
open Open4 (i64 wf71)
set_option linter.unusedSimpArgs false
set_option linter.unusedVariables false
set_option maxRecDepth 100000
variable {S : Nat → Prop} {w W W' w' : World} {g n B : Nat} {st : St}
attribute [local go_sem] Oper.semAt_some
set_option maxHeartbeats 8000000 in
theorem keeps_any (A0 : Option Addr) (c0 : Nat) (l0 : List S71) (A1 : Option Addr) (c1 : Nat) (r1 : List Int) (A2 : Option Addr) (c2 : Nat) (r2 : List Int) (w : World) (h0 : l0.length ≤ c0) (hC0 : Kd.C k71 w A0 l0.length l0) (hw : ∀ o ∈ l0, wf71 o)
    (hC1 : Kd.C (Kd.int .i64) w A1 r1.length r1) (h1 : r1.length ≤ c1) (hC2 : Kd.C (Kd.int .i64) w A2 r2.length r2) :
    Calls Try.prog 11 #[.slice A0 l0.length c0, .slice A1 r1.length c1, .slice A2 r2.length c2] w fun e w' => e = .returned (.bool true) ∧ Below w.heap.size w w' := by
  obtain ⟨m, l, hHf, hl40, hfine⟩ := heap_f l0 hw
  have hG := fine_gl l hl40 hfine
  obtain ⟨xs, hxf, hx50, hxu⟩ := words_f l hl40 hfine r1
  have hadr := adr_le l hfine
  obtain ⟨N, hN⟩ : ∃ N : Int, 64 + (adr l l.length : Int) = N := ⟨_, rfl⟩
  rw [hN] at hHf hG
  have hH := Pa.kindlingref04_Heap.calls m A0 c0 l0 l N w hC0 h0 hHf
  have hNN := Aside0.mk hN
  clear hN
  go_enter Try.func11, Try.ntmps11
  go_wp2_with (first
    | (go_at_call 14; (with_reducible refine Calls.mono hH ?_); clear hH; rintro e w2 ⟨v2, rfl, hS2, hb2⟩
       obtain ⟨A, c, rfl, hc, hC⟩ := Kd.S_reads hS2
       have hMd := made_any (w := w2) (wvOf l) A c l N hC hc hG
       clear hS2)
    | (go_at_call 15; (with_reducible refine hMd.mono ?_); clear hMd; rintro e w5 ⟨g, rfl, M5⟩
       have hB5 := M5.1
       have P5 := M5.2.bound
       clear M5
       have hb5 := below_step hb2 hB5
       have hWa := Pa.kindlinglaw04_words.calls 200 A c l A1 c1 r1 xs w5 (Kd.C_below hC hB5) hc (Kd.C_below hC1 hb5) h1 hxf)
    | (go_at_call 17; (with_reducible refine hWa.mono ?_); clear hWa; rintro e w6 ⟨va, rfl, hRa, hb6⟩
       obtain ⟨Aa, ca, rfl⟩ := Kd.R_slice hRa
       have hCa := (Kd.R_reads' hRa).2.2
       have hbase := Kd.R_base hRa
       have hrlt := Kd.R_lt hRa
       have P6 := P5.below hb6
       have hb26 := below_step hb5 hb6
       have hs6 := hb6.size
       have hs2 := hb2.size
       have hCp := P6.copy (fun k h => by omega)
       clear hRa)
    | (go_at_call 37; (with_reducible refine hCp.mono ?_); clear hCp; rintro e w7 ⟨g7, rfl, P7, hb7⟩; refine Hid.out ?_))
  unfold Hid
  have hfl0 : (flat (full (wvOf l) l)).length = adr l l.length := flat_adr (sto_lens _ _ _ _)
  have Q7 := P7.bound
  have M7 := P6.below hb7
  have hb27 := below_step hb26 hb7
  have hCa7 := Kd.C_below hCa hb7
  have hs7 := hb7.size
  have hA7 : ∀ ad, Aa = some ad → ¬ (w2.heap.size ≤ ad.block ∧ ad.block < w5.heap.size) ∧ ad.block < w7.heap.size := fun ad h => by
    subst h
    have h1 := hbase ad.block (by simp [Value.ownBlock])
    have h2 := hrlt ad.block (by simp [Value.ownBlock])
    exact ⟨fun h3 => by have := h3.2; omega, by omega⟩
  have hlt7 : ∀ k, (w2.heap.size ≤ k ∧ k < w5.heap.size) → k < w7.heap.size := fun k h => by omega
  have hdis : ∀ k, (w6.heap.size ≤ k ∧ k < w7.heap.size) → ¬ (w2.heap.size ≤ k ∧ k < w5.heap.size) := fun k h h2 => by omega
  have hbig : ∀ k, (w2.heap.size ≤ k ∧ k < w5.heap.size) → w.heap.size ≤ k := fun k h => by omega
  obtain ⟨st, hst⟩ : ∃ st : St, (⟨N, 0, full (wvOf l) l, [], .map []⟩ : St) = st := ⟨_, rfl⟩
  have hstz : st.size = N ∧ st.half = 0 ∧ (flat st.os).length = adr l l.length := by rw [← hst]; exact ⟨rfl, rfl, hfl0⟩
  rw [hst] at M7 Q7
  clear hst hG hxf hHf hfine hC0 hC1 hw P5 hC hfl0 hb5 hB5 hb6 P6 P7 hCa hbase hrlt hb26 hb7 hb2
  generalize hS0 : (fun k => w2.heap.size ≤ k ∧ k < w5.heap.size) = S0 at M7
  generalize hS1 : (fun k => w6.heap.size ≤ k ∧ k < w7.heap.size) = S1 at Q7
  have hA7' : ∀ ad, Aa = some ad → ¬ S0 ad.block ∧ ad.block < w7.heap.size := by rw [← hS0]; exact hA7
  have hlt7' : ∀ k, S0 k → k < w7.heap.size := by rw [← hS0]; exact hlt7
  have hdis' : ∀ k, S1 k → ¬ S0 k := by rw [← hS0, ← hS1]; exact hdis
  have hbig' : ∀ k, S0 k → w.heap.size ≤ k := by rw [← hS0]; exact hbig
  clear hA7 hlt7 hdis hbig hS0 hS1 hs2 hs6 hs7
  cases hb : walkP st.f st.os xs with
  | mk L ok =>
  cases ok with
  | false =>
    have hCo := collect_no M7 Aa ca xs hCa7 hxu (by omega) (by rw [hb])
    have hHf : ∀ W, Below w7.heap.size w7 W → Calls Try.prog 30 #[.pointer (some ⟨g, 0, none⟩)] W fun e w' => e = .returned (.int .i64 0) ∧ w' = W := fun W hB => by
      have h := (M7.below hB).half
      rw [hstz.2.1] at h
      exact h
    clear hb hstz
    go_wp2_with (first
      | (go_at_call 19; (with_reducible refine hCo.mono ?_); clear hCo; rintro e w8 ⟨rfl, hb8⟩)
      | (go_at_call 30; (with_reducible refine (hHf _ hb8).mono ?_); rintro e w9 ⟨rfl, rfl⟩)
      | (go_at_call 24; (with_reducible refine (known_any _).mono ?_); rintro e w10 ⟨rfl, hb10⟩))
    go_ret
    exact ⟨rfl, below_step (below_step hb27 hb8) hb10⟩
  | true =>
    have hOL : Ord st.f st.os L := by have := Ord.walkP st.f st.os xs; rw [hb] at this; exact this
    obtain ⟨hSh, hGd⟩ := walk_shut hb
    have hCo := collect_any M7 hlt7' Aa ca xs hCa7 hxu (by omega) hA7' hb
    have hof := ord_fit hOL
    have hf1 : 1 ≤ st.f2 ∧ st.f2 ≤ 200000 ∧ (flat st.os).length ≤ 65536 := by
      have h1 := M7.fbound
      have h2 := hNN.out
      unfold St.f2
      rw [hstz.1, hstz.2.1]
      omega
    have hcu : ∀ x ∈ xs.map (cw st.f2 st.f st.os L), u64 x := by
      intro x hx
      obtain ⟨y, hy, rfl⟩ := List.mem_map.1 hx
      have hyu := hxu y hy
      unfold cw
      split
      · exact hyu
      · have h6 : pos (L.map (obAt st.f st.os)) (L.idxOf (y / 2)) ≤ (flat (L.map (obAt st.f st.os))).length := pos_mono _ _ (by rw [List.length_map]; exact List.idxOf_le_length)
        unfold u64
        omega
    clear hNN hadr hstz hof
    go_wp2_with (first
      | (go_at_call 19; (with_reducible refine hCo.mono ?_); clear hCo; unfold Collected; rintro e w15 ⟨S15, B15, d15, D15, rfl, M15, hu15, hl15, hn15, ho15, hf15⟩
         have hC15 := (Kd.R_reads' ho15).2.2
         rw [List.length_map] at hC15
         have O15 := Q7.keep hf15 hdis'
         have hCa15 := C_fr hCa7 hf15 (fun ad h => (hA7' ad h).1)
         have hb15 := below_fr hb27 hf15 hbig'
         clear hn15 ho15 hf15 hl15 hu15
         refine Hid.out ?_))
    unfold Hid
    obtain ⟨F1, F2, b, hWy⟩ := ways_any O15 M15 hb hxu hcu (by omega) ca d15 c2 hCa15 hC15 (Kd.C_below hC2 hb15)
    have hAl := fun h => ways_like O15 M15 hb hWy.u (hWy.yes h).2
    have hOld := hWy.old
    have hNew := hWy.new
    have hd : Drawn0 w15 w15 := ⟨0, rfl⟩
    cases b with
    | false =>
      clear hAl
      go_wp2_with (first
        | (go_at_call 38; (with_reducible refine (hOld _ hd).mono ?_); clear hOld; rintro e w16 ⟨rfl, hd16⟩; replace hd := drawn_trans hd hd16)
        | (go_at_call 38; (with_reducible refine (hNew _ hd).mono ?_); clear hNew; rintro e w16 ⟨rfl, hd16⟩; replace hd := drawn_trans hd hd16)
        | (go_at_call 24; (with_reducible refine (known_any _).mono ?_); rintro e w10 ⟨rfl, hb10⟩))
      go_ret
      exact ⟨rfl, below_step (below_step hb15 hd.below) hb10⟩
    | true =>
      replace hAl := hAl rfl
      rw [← (hWy.yes rfl).1] at hAl
      clear hWy
      go_wp2_with (first
        | (go_at_call 38; (with_reducible refine (hOld _ hd).mono ?_); clear hOld; rintro e w16 ⟨rfl, hd16⟩; replace hd := drawn_trans hd hd16)
        | (go_at_call 38; (with_reducible refine (hNew _ hd).mono ?_); clear hNew; rintro e w16 ⟨rfl, hd16⟩; replace hd := drawn_trans hd hd16)
        | (go_at_call 39; (with_reducible refine (hAl _ hd).mono ?_); clear hAl; rintro e w16 ⟨rfl, hd16⟩; replace hd := drawn_trans hd hd16)
        | (go_at_call 24; (with_reducible refine (known_any _).mono ?_); rintro e w10 ⟨rfl, hb10⟩))
      go_ret
      exact ⟨rfl, below_step (below_step hb15 hd.below) hb10⟩
theorem keeps_walk (a0 : Option Addr) (c0 : Nat) (l0 : List S71) (a1 : Option Addr) (len1 cap1 : Nat) (z1 : List Int) (a2 : Option Addr) (len2 cap2 : Nat) (z2 : List Int) (w : World) (h0 : l0.length ≤ c0) (hC0 : Kd.C k71 w a0 l0.length l0) (hw : ∀ o ∈ l0, wf71 o)
    (w1 : (a1 = none ∧ len1 = 0 ∧ cap1 = 0 ∧ z1 = []) ∨ ∃ x, a1 = some x ∧ len1 ≤ cap1 ∧ cap1 ≤ maxLen ∧ z1.length = cap1 ∧ (∀ i, i < z1.length → w.cell? (x.add i) = some (.int .i64 (z1.getD i 0))) ∧ ∀ n ∈ z1, (Lit.int .i64 n).wf = true) (y1 : len1 * 8 ≤ 140737488351232)
    (w2 : (a2 = none ∧ len2 = 0 ∧ cap2 = 0 ∧ z2 = []) ∨ ∃ x, a2 = some x ∧ len2 ≤ cap2 ∧ cap2 ≤ maxLen ∧ z2.length = cap2 ∧ (∀ i, i < z2.length → w.cell? (x.add i) = some (.int .i64 (z2.getD i 0))) ∧ ∀ n ∈ z2, (Lit.int .i64 n).wf = true) (y2 : len2 * 8 ≤ 140737488351232) :
    Calls Try.prog 11 #[.slice a0 l0.length c0, .slice a1 len1 cap1, .slice a2 len2 cap2] w fun e w' => e = .returned (.bool true) ∧ Below w.heap.size w w' := by
  obtain ⟨l1, rfl, hr1, hm1, hw1, hc1⟩ := ReadsInt.ofRowC w1
  obtain ⟨l2, rfl, hr2, hm2, hw2, hc2⟩ := ReadsInt.ofRowC w2
  exact keeps_any a0 c0 l0 a1 cap1 l1 a2 cap2 l2 w h0 hC0 hw (Kd.C_of_reads (d := (0 : Int)) (h1 := fun _ => rfl) hr1) hc1 (Kd.C_of_reads (d := (0 : Int)) (h1 := fun _ => rfl) hr2)
end Go.Proofs.Ytjccaojlldkmpaa.Mem
