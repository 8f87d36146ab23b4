/- A memory whose map lies below a bound: it is kept where a range over a function writes its own records. -/
import Derived.Test.YtjccaojlldkmpaaMem7
import Derived.RangeFuncNested
namespace Go.Proofs.Ytjccaojlldkmpaa.Mem
open Go.RowKit Go.Proofs.YtjccaojlldkmpaaW.PrintWords Go.Proofs.YtjccaojlldkmpaaW.PrintLast Go.Proofs.YtjccaojlldkmpaaW.PrintMore
open Hf (rightB hdr headOf partsOf)
set_option linter.unusedSimpArgs false
set_option linter.unusedVariables false
variable {S : Nat → Prop} {w w' : World} {g mb n B : Nat} {st : St} {vw vh ow oh : Value}
def IsAt (B : Nat) (S : Nat → Prop) (w : World) (g : Nat) (st : St) : Prop := ∃ vw vh ow oh mb n, Lie S w g st vw vh ow oh mb n ∧ mb < B
theorem IsAt.mem (M : IsAt B S w g st) : IsMem S w g st := by
  obtain ⟨vw, vh, ow, oh, mb, n, L, -⟩ := M
  exact ⟨vw, vh, ow, oh, mb, n, L⟩
theorem map_lt {k e : TypeId} {D : DataW Unit} (h : w.ownsMap Try.prog k (plainElem Try.prog e) mb n D) : mb < w.heap.size := by
  obtain ⟨es, clock, hb, -⟩ := h
  exact (Array.getElem?_eq_some_iff.1 hb).1
theorem IsMem.at_ (M : IsMem S w g st) (h : w.heap.size ≤ B) : IsAt B S w g st := by
  obtain ⟨vw, vh, ow, oh, mb, n, L⟩ := M
  exact ⟨vw, vh, ow, oh, mb, n, L, Nat.lt_of_lt_of_le (map_lt L.map) h⟩
theorem Lie.kept (L : Lie S w g st vw vh ow oh mb n) {row : Option Nat} (hg : w.grownBy w' row) (h : ∀ r, row = some r → B ≤ r ∧ ∃ o : Obj, w.heap[r]? = some o ∧ o.isCells = false) (hmb : mb < B) : Lie S w' g st vw vh ow oh mb n := by
  have fr : Fr (fun k => row = some k) w w' := Fr.of_grown hg (fun k hk => hk)
  have nc : ∀ k, (∃ cs t, w.heap[k]? = some (.cells cs t (0, 0))) → ¬ row = some k := by
    rintro k ⟨cs, t, hk⟩ e
    obtain ⟨-, o, ho, hc⟩ := h k e
    rw [hk] at ho
    cases ho
    cases hc
  have nw : ∀ {v : Value} {xs : List Int}, Ws w v xs → ∀ k, v.ownBlock = some k → ¬ row = some k := fun hv k hk => nc k (by obtain ⟨cs, h1⟩ := Kd.R_typed hv k hk; exact ⟨cs, _, h1⟩)
  have nh : ∀ {v : Value} {xs : List Int}, Hs w v xs → ∀ k, v.ownBlock = some k → ¬ row = some k := fun hv k hk => nc k (by obtain ⟨cs, h1⟩ := Kd.R_typed hv k hk; exact ⟨cs, _, h1⟩)
  have ng : ¬ row = some g := nc g ⟨_, _, L.H.blk⟩
  have nm : ¬ row = some mb := fun e => by have := (h mb e).1; omega
  exact ⟨⟨(fr.same g (blk_lt L.H.blk) ng).trans L.H.blk, keepW L.H.ws fr (nw L.H.ws), keepH L.H.hs fr (nh L.H.hs), L.H.ok, L.H.hf, L.H.hl⟩, L.sz, L.hf, L.fit, L.ofit, keepW L.ows fr (nw L.ows), keepH L.ohs fr (nh L.ohs), L.ook,
    keepMap L.map (fr.same mb (map_lt L.map) nm), L.mn, L.apW, L.apH, L.s1, L.s2, L.s3, L.s4, L.s5, L.s6⟩
theorem isAt_own {β : Type} (S : Nat → Prop) (g : Nat) (st : β → St) : OwnFrom B (fun x W => IsAt B S W g (st x)) := by
  rintro s X Y row ⟨vw, vh, ow, oh, mb, n, L, hmb⟩ hg hr
  exact ⟨vw, vh, ow, oh, mb, n, L.kept hg hr hmb, hmb⟩
theorem IsAt.more (M : IsAt B S w g st) {T : Nat → Prop} (h : ∀ k, S k → T k) : IsAt B T w g st := by
  obtain ⟨vw, vh, ow, oh, mb, n, L, hmb⟩ := M
  exact ⟨vw, vh, ow, oh, mb, n, L.more h, hmb⟩
theorem IsAt.keep (M : IsAt B S w g st) {T : Nat → Prop} (fr : Fr T w w') (hT : ∀ k, S k → ¬ T k) : IsAt B S w' g st := by
  obtain ⟨vw, vh, ow, oh, mb, n, L, hmb⟩ := M
  exact ⟨vw, vh, ow, oh, mb, n, L.keep fr hT, hmb⟩
theorem IsAt.store (M : IsAt B S w g st) (i j : Nat) (v : Int) (hi : i < st.os.length) (hj : j < st.os[i].fs.length) (hv : 0 ≤ v ∧ v < 18446744073709551616) :
    Calls Try.prog 44 #[.pointer (some ⟨g, 0, none⟩), .int .i64 (st.f + (pos st.os i : Int)), .int .i64 j, .int .u64 v] w fun e w' => e = .returned (.int .i64 0) ∧ IsAt B (fun k => S k ∨ w.heap.size ≤ k) w' g { st with os := putO st.os i j v } ∧ Fr S w w' := by
  obtain ⟨vw, vh, ow, oh, mb, m, L, hmb⟩ := M
  refine (store_yes L.H i j v hi hj hv).mono ?_
  rintro e w' ⟨rfl, H', fr⟩
  have fr' : Fr (fun k => k = g ∨ vw.ownBlock = some k ∨ vh.ownBlock = some k) w w' := fr.mono (fun k _ h => .inr (.inl h))
  exact ⟨rfl, ⟨vw, vh, ow, oh, mb, m, L.now H' (.inl rfl) (.inl rfl) fr' (by rw [putO_lens_len]; exact L.fit) (by rw [putO_length]; exact Nat.le_refl _), hmb⟩, Fr.own L fr'⟩
end Go.Proofs.Ytjccaojlldkmpaa.Mem
