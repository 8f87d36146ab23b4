/- Flip, at a memory's state; the laws MemTwice and MemFresh. -/
import Derived.Test.YtaliolnndbnfhaaMem8
namespace Go.Proofs.Ytaliolnndbnfhaa.Mem
open Go.RowKit Go.Proofs.YtaliolnndbnfhaaW.PrintWords Go.Proofs.YtaliolnndbnfhaaW.PrintLast Go.Proofs.YtaliolnndbnfhaaW.PrintMore
open Hf (rightB hdr headOf partsOf w64_of)
set_option linter.unusedSimpArgs false
set_option linter.unusedVariables false
variable {S : Nat → Prop} {w w' w0 : World} {g : Nat} {st : St} {va vs : Value} {ads ss : List Int}
/-- The state behind Flip. -/
def St.flip (st : St) : St := ⟨st.size, 1 - st.half, [], st.os, .map []⟩
theorem flip_f2 (st : St) : st.flip.f2 = st.f := by
  unfold St.flip St.f2 St.f
  simp only
  rw [show (1 : Int) - (1 - st.half) = st.half by omega]
theorem IsMem.flip (M : IsMem S w g st) : Calls Try.prog 28 #[.pointer (some ⟨g, 0, none⟩)] w fun e w' => e = .returned (.int .i64 0) ∧ IsMem (fun k => S k ∨ w.heap.size ≤ k) w' g st.flip ∧ Fr S w w' := by
  obtain ⟨vw, vh, ow, oh, mb, n, L⟩ := M
  have hgvw := L.g_vw
  have hgvh := L.g_vh
  have H := L.H
  have hows := L.ows
  have hohs := L.ohs
  have hsz := L.sz
  have hhf := L.hf
  obtain ⟨a1, c1, e1⟩ := Kd.R_slice L.H.ws
  obtain ⟨a2, c2, e2⟩ := Kd.R_slice L.H.hs
  obtain ⟨a3, c3, e3⟩ := Kd.R_slice L.ows
  obtain ⟨a4, c4, e4⟩ := Kd.R_slice L.ohs
  have hblk := H.blk
  rw [e1, e2, e3, e4] at hblk
  refine (flip_raw w g st.size st.half st.f st.f2 (.map (some mb)) a1 a2 a3 a4 _ c1 _ c2 _ c3 _ c4 hsz hhf hblk).mono ?_
  rintro e w' ⟨he, mb', hmb, hb', hmap, fr⟩
  rw [← e1, ← e2] at hb'
  have nil : ∀ k, (Value.slice none 0 0).ownBlock = some k → False := fun k hk => by simp [Value.ownBlock] at hk
  refine ⟨he, ⟨.slice none 0 0, .slice none 0 0, vw, vh, mb', 0, ?_⟩, fr.mono (fun k _ h => h ▸ L.s1)⟩
  exact
    { H := ⟨by rw [flip_f2]; exact hb', Kd.R_nil _ _ _ _ _, Kd.R_nil _ _ _ _ _, (fun o ho => by cases ho), (by
        unfold St.flip St.f
        simp only
        rcases hhf with h | h <;> rw [h] <;> omega), by simp [St.flip, flat]⟩
      sz := hsz
      hf := by
        unfold St.flip
        simp only
        omega
      fit := by
        unfold St.flip
        simp only [flat, List.flatMap_nil, List.length_nil]
        omega
      ofit := L.fit
      ows := keepW L.H.ws fr (fun k hk h => hgvw k hk h)
      ohs := by rw [flip_f2]; exact keepH L.H.hs fr (fun k hk h => hgvh k hk h)
      ook := L.H.ok
      map := ⟨#[], 0, hmap, ⟨by simp, MapKept.stamped_empty 0, by simp⟩, Nat.le_refl _, rfl⟩
      mn := Nat.zero_le _
      apW := fun k hk => (nil k hk).elim
      apH := fun k hk => (nil k hk).elim
      s1 := .inl L.s1
      s2 := .inr hmb
      s3 := fun k hk => (nil k hk).elim
      s4 := fun k hk => (nil k hk).elim
      s5 := fun k hk => .inl (L.s3 k hk)
      s6 := fun k hk => .inl (L.s4 k hk) }
theorem Fil.flip (F : Fil w0 w g st va vs ads ss) : Calls Try.prog 28 #[.pointer (some ⟨g, 0, none⟩)] w fun e w' => e = .returned (.int .i64 0) ∧ Fil w0 w' g st.flip va vs ads ss := by
  obtain ⟨S, F⟩ := F
  refine F.mem.flip.mono ?_
  rintro e w' ⟨he, h1, h2⟩
  exact ⟨he, Fil.turn F h1 h2⟩
end Go.Proofs.Ytaliolnndbnfhaa.Mem
