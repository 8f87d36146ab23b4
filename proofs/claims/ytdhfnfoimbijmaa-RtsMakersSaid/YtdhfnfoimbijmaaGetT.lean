/- rts.GetText of a text's object. -/
import Derived.Test.YtdhfnfoimbijmaaGet
import Derived.Test.YtdhfnfoimbijmaaTxt
import Derived.Test.YtdhfnfoimbijmaaPa2
namespace Go.Proofs.Ytdhfnfoimbijmaa.Mem
open Go.RowKit Go.Shelf Go.Proofs.YtdhfnfoimbijmaaW.PrintWords Go.Proofs.YtdhfnfoimbijmaaW.PrintLast Go.Proofs.YtdhfnfoimbijmaaW.PrintMore
open Hf (rightB hdr headOf partsOf)
open Num (bts word)
set_option linter.unusedSimpArgs false
set_option linter.unusedVariables false
variable {S : Nat → Prop} {w w' : World} {g mb n B : Nat} {st : St} {vw vh ow oh : Value}
theorem isInt_f {x : Int} (h : 0 ≤ x ∧ x < 18446744073709551616) : Pa.num_IsInt.f x = some (x % 2 == 1) := by
  unfold Pa.num_IsInt.f
  rw [Hf.and_mask 1 1 rfl (by decide) x h.1 h.2]
  rfl
theorem toPtr_even {a : Int} (h : 1 ≤ a ∧ a ≤ 300000) : Pa.num_ToPtr.f (2 * a) = some a := by
  have hP : Pa.num_IsPtr.f (2 * a) = some true := by
    unfold Pa.num_IsPtr.f
    rw [Hf.and_mask 1 1 rfl (by decide) (2 * a) (by omega) (by omega)]
    rw [if_pos (show 2 * a % ((2 ^ 1 : Nat) : Int) = 0 by simp), if_pos (by omega), decide_eq_true (by omega)]
  unfold Pa.num_ToPtr.f
  rw [hP, Option.bind_some, if_pos rfl]
  congr 1
  unfold wrap64
  omega
theorem text_words (s : ByteArray) : (List.range (nw s)).map (word (bts s)) = Fa.PK s := by
  have h := Fa.words_packR _ (bts s) (Nat.le_refl _)
  rw [Num.bts_length] at h
  exact h
theorem textO_fs (s : ByteArray) : (textO s).fs = (s.size : Int) :: Fa.PK s := by unfold textO; rw [text_words]
theorem IsMem.fbound (M : IsMem S w g st) : 1 ≤ st.f ∧ st.f ≤ 200000 ∧ (flat st.os).length ≤ 65536 := by
  obtain ⟨vw, vh, ow, oh, mb, n, L⟩ := M
  have h1 := L.sz
  refine ⟨?_, L.H.hf.2, L.H.hl⟩
  unfold St.f
  rcases L.hf with h | h <;> rw [h] <;> omega
theorem IsMem.below (M : IsMem S w g st) (hb : Below w.heap.size w w') : IsMem S w' g st :=
  ((M.tight).keep (T := fun k => w.heap.size ≤ k) ⟨hb.mono (Nat.zero_le _), fun k hk _ => hb.block k hk⟩ (fun k h h2 => by omega)).more (fun k h => h.1)
set_option maxHeartbeats 4000000 in
set_option maxRecDepth 100000 in
theorem get_text (M : IsMem S w g st) (i : Nat) (hi : i < st.os.length) (s : ByteArray) (hs : st.os[i] = textO s) (a : Int) (ha : a = st.f + (pos st.os i : Int)) :
    Calls Try.prog 34 #[.pointer (some ⟨g, 0, none⟩), .int .u64 (2 * a)] w fun e w' => e = .returned (.tuple #[.string s, .int .i64 0]) ∧ Below w.heap.size w w' := by
  obtain ⟨b1, b2, b3⟩ := M.fbound
  have hph := pos_head st.os i hi
  have hlen : (textO s).fs.length = nw s + 1 := by simp [textO]
  rw [hs, hlen] at hph
  have hpr : 1 ≤ a ∧ a ≤ 300000 := by omega
  have hsz : s.size ≤ 524288 := by unfold nw at hph; omega
  have hT : ∀ W, Calls Try.prog 52 #[.int .u64 (2 * a)] W fun e w' => e = .returned (.int .i64 a) ∧ Drawn0 W w' := fun W => Pa.num_ToPtr.calls _ _ W (toPtr_even hpr)
  have hK : ∀ W, Below w.heap.size w W → Calls Try.prog 51 #[.pointer (some ⟨g, 0, none⟩), .int .i64 a] W fun e w' => e = .returned (.tuple #[.int .i64 4, .int .i64 ((nw s : Int) + 1), .int .i64 0, .int .i64 0]) ∧ Drawn0 W w' := by
    intro W hb
    have h := (M.below hb).look i hi
    rw [← ha, hs, hlen] at h
    rw [show ((nw s + 1 : Nat) : Int) = (nw s : Int) + 1 from by omega] at h
    exact h
  have hF : ∀ W, Below w.heap.size w W → Calls Try.prog 54 #[.pointer (some ⟨g, 0, none⟩), .int .i64 a, .int .i64 ((nw s : Int) + 1)] W fun e w' => ∃ v, e = .returned v ∧ (Kd.int .u64).R 37 w' W.heap.size (fun _ => True) v ((s.size : Int) :: Fa.PK s) ∧ Below W.heap.size W w' := by
    intro W hb
    have h := fields_any (M.below hb) i hi (by rw [hs, hlen]; omega)
    rw [← ha, hs, hlen, textO_fs] at h
    rw [show ((nw s + 1 : Nat) : Int) = (nw s : Int) + 1 from by omega] at h
    exact h
  have hpk : (Fa.PK s).length = nw s := Fa.PK_length s
  have hun : Pa.num_Unpack.f (16 * (Fa.PK s).length + 4) (Fa.PK s) (s.size : Int) = some (s, 0) := by
    rw [Fa.unpack_f (Fa.PK s) (s.size : Int) (by omega) (Fa.PK_u64 s) (by unfold Fa.i64; omega) _ (Nat.le_refl _), Fa.unp_PK]
  have hle : (s.size : Int) ≤ 8 * ((nw s : Int) + 1) := by unfold nw; omega
  have hnw : nw s ≤ 65536 := by omega
  clear M hlen hph ha hs
  have hB0 := Below.refl w.heap.size w
  go_enter Try.func34, Try.ntmps34
  go_wp2_with fail
  (with_reducible refine Calls.mono (hT _) ?_)
  rintro e w1 ⟨rfl, ⟨m1, rfl⟩⟩
  have hB1 := hB0.trans (pw_below_drewN (Below.refl w.heap.size w) m1)
  go_wp2_with fail
  (with_reducible refine Calls.mono (hK _ hB1) ?_)
  rintro e w2 ⟨rfl, hd2⟩
  have hB2 := hB1.trans (hd2.below.mono hB1.size)
  clear hK hB1 hd2
  go_wp2_with fail
  (with_reducible refine Calls.mono (hT _) ?_)
  rintro e w3 ⟨rfl, hd3⟩
  have hB3 := hB2.trans (hd3.below.mono hB2.size)
  clear hT hB2 hd3
  go_wp2_with fail
  (with_reducible refine Calls.mono (hF _ hB3) ?_)
  rintro e w4 ⟨v, rfl, hR, hb4⟩
  have hB4 := hB3.trans (hb4.mono hB3.size)
  have hR := Kd.R_lower hR (base' := w.heap.size) hB3.size
  clear hF hb4
  obtain ⟨gv, cv, rfl, hgv, hlv, -⟩ := Kd.R_form hR (by simp)
  have hln : ((s.size : Int) :: Fa.PK s).length = nw s + 1 := by rw [List.length_cons, hpk]
  rw [hln] at hR ⊢
  have hc0 := (Kd.R_celln (0 : Int) hR 0 (by omega) (by omega)).1
  rw [show (0 : Int).toNat = 0 from rfl, show rdOf 0 ((s.size : Int) :: Fa.PK s) 0 = (s.size : Int) from rfl] at hc0
  obtain ⟨hrl, hcap, hC⟩ := Kd.R_reads' hR
  obtain ⟨i022, hi022, _, hsz22, _⟩ := info_parts info22
  have hcut := cut_from (P := Try.prog) 43 37 .i64 Try.underlying43 hi022 1 hsz22 (some ⟨gv, 0, none⟩) (nw s + 1) cv (1 : Int) (by omega) (by omega)
  have hr := Kd.C_drop (m := 1) (c := cv) hC (by rw [hln]; omega) (by rw [hln]; exact hcap)
  rw [show (1 : Int).toNat = 1 from rfl, show nw s + 1 - 1 = nw s from by omega] at hcut
  obtain ⟨A1, hA1⟩ : ∃ A1, A1 = (if cv = 1 then some ⟨gv, 0, none⟩ else (some ⟨gv, 0, none⟩ : Option Addr).map (·.add (1 * 1))) := ⟨_, rfl⟩
  have hr : Kd.C (Kd.int .u64) w4 A1 (Fa.PK s).length (Fa.PK s) := by rw [hA1]; exact hr
  rw [← hA1] at hcut
  obtain ⟨c1, hc1⟩ : ∃ c1, c1 = cv - 1 := ⟨_, rfl⟩
  rw [← hc1] at hcut
  have hU := Pa.num_Unpack.calls _ A1 c1 (Fa.PK s) (s.size : Int) s 0 w4.drew (Kd.C_drew hr) (by omega) hun
  rw [hpk] at hU
  have hz0 : decide ((0 : Int) < ((nw s + 1 : Nat) : Int)) = true := decide_eq_true (by omega)
  have hgt : decide ((s.size : Int) > 8 * ((nw s : Int) + 1)) = false := decide_eq_false (by omega)
  clear hA1 hc1 hr hC hR hun hln hrl
  go_wp2_with fail
  have hwr : IntKind.i64.wrap (s.size : Int) = (s.size : Int) := by
    rw [IntKind.wrap_i64]
    omega
  have hcd : w4.drew.cell? ⟨gv, 0, none⟩ = some (.int .u64 (s.size : Int)) := hc0
  go_region_held3 (fun W' => W'.cell? ⟨gv, 0, none⟩ = some (.int .u64 (s.size : Int)))
    (first | with_reducible exact hc0 | with_reducible exact hcd | with_reducible exact hc5)
    (first
      | (go_at_call 71; (with_reducible refine Calls.mono hU ?_); rintro e w5 ⟨rfl, hb5⟩; have hc5 := (hb5.cell (p := ⟨gv, 0, none⟩) hlv).trans hcd))
  go_wp2_with fail
  go_ret2
  exact ⟨rfl, hB4.trans (Below.mono ⟨hb5.os, hb5.tape, hb5.output, hb5.size, hb5.block⟩ hB4.size)⟩
end Go.Proofs.Ytdhfnfoimbijmaa.Mem
