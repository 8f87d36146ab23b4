/- A memory as it lies, with its old half and its map; what its calls do to it. -/
import Derived.Test.YtjccaojlldkmpaaMem6
namespace Go.Proofs.Ytjccaojlldkmpaa.Mem
open Go.RowKit Go.Proofs.YtjccaojlldkmpaaW.PrintWords Go.Proofs.YtjccaojlldkmpaaW.PrintLast Go.Proofs.YtjccaojlldkmpaaW.PrintMore
open Hf (rightB hdr headOf partsOf)
set_option linter.unusedSimpArgs false
set_option linter.unusedVariables false
/-- A memory's state. -/
structure St where
  size : Int
  half : Int
  os : List O
  olds : List O
  mvd : DataW Unit
def St.f (st : St) : Int := 1 + st.half * st.size
def St.f2 (st : St) : Int := 1 + (1 - st.half) * st.size
structure Lie (S : Nat → Prop) (w : World) (g : Nat) (st : St) (vw vh ow oh : Value) (mb n : Nat) : Prop where
  H : Half w g st.size st.half st.f st.f2 ow oh (.map (some mb)) vw vh st.os
  sz : 64 ≤ st.size ∧ st.size ≤ 65536
  hf : st.half = 0 ∨ st.half = 1
  fit : ((flat st.os).length : Int) ≤ st.size
  ofit : ((flat st.olds).length : Int) ≤ st.size
  ows : Ws w ow (flat st.olds)
  ohs : Hs w oh (heads st.f2 st.olds)
  ook : ∀ o ∈ st.olds, O.ok o
  map : w.ownsMap Try.prog 3 (plainElem Try.prog 3) mb n st.mvd
  mn : n ≤ st.os.length
  apW : ∀ k, vw.ownBlock = some k → ow.ownBlock ≠ some k
  apH : ∀ k, vh.ownBlock = some k → oh.ownBlock ≠ some k
  s1 : S g
  s2 : S mb
  s3 : ∀ k, vw.ownBlock = some k → S k
  s4 : ∀ k, vh.ownBlock = some k → S k
  s5 : ∀ k, ow.ownBlock = some k → S k
  s6 : ∀ k, oh.ownBlock = some k → S k
/-- Block g is a memory in state st; all its blocks are in S. -/
def IsMem (S : Nat → Prop) (w : World) (g : Nat) (st : St) : Prop := ∃ vw vh ow oh mb n, Lie S w g st vw vh ow oh mb n
variable {S : Nat → Prop} {w w' : World} {g mb n : Nat} {st : St} {vw vh ow oh : Value}
theorem keepW {v : Value} {xs : List Int} {T : Nat → Prop} (h : Ws w v xs) (fr : Fr T w w') (hn : ∀ k, v.ownBlock = some k → ¬ T k) : Ws w' v xs :=
  Kd.R_mono (Kd.R_step (Kd.R_tight rfl h) (fun k hk hl => fr.same k hl (hn k hk.symm))) (fun _ _ => trivial)
theorem keepH {v : Value} {xs : List Int} {T : Nat → Prop} (h : Hs w v xs) (fr : Fr T w w') (hn : ∀ k, v.ownBlock = some k → ¬ T k) : Hs w' v xs :=
  Kd.R_mono (Kd.R_step (Kd.R_tight rfl h) (fun k hk hl => fr.same k hl (hn k hk.symm))) (fun _ _ => trivial)
theorem keepMap {k e : TypeId} {D : DataW Unit} (h : w.ownsMap Try.prog k (plainElem Try.prog e) mb n D) (he : w'.heap[mb]? = w.heap[mb]?) : w'.ownsMap Try.prog k (plainElem Try.prog e) mb n D := by
  obtain ⟨es, clock, hb, F, hs, hD⟩ := h
  exact ⟨es, clock, he.trans hb, F, hs, hD⟩
theorem map_ne {k e : TypeId} {D : DataW Unit} (h : w.ownsMap Try.prog k (plainElem Try.prog e) mb n D) {j : Nat} {cs : Array Value} {t : TypeId} (hj : w.heap[j]? = some (.cells cs t (0, 0))) : mb ≠ j := by
  obtain ⟨es, clock, hb, -⟩ := h
  intro e
  subst e
  rw [hb] at hj
  cases hj
theorem WH_ne {v u : Value} {xs ys : List Int} (h : Ws w v xs) (h' : Hs w u ys) (k : Nat) (hk : v.ownBlock = some k) : u.ownBlock ≠ some k := by
  intro e
  obtain ⟨cs, h1⟩ := Kd.R_typed h k hk
  obtain ⟨cs', h2⟩ := Kd.R_typed h' k e
  rw [h1] at h2
  cases h2
theorem Lie.g_vw (L : Lie S w g st vw vh ow oh mb n) : ∀ k, vw.ownBlock = some k → k ≠ g := fun k hk e => by
  obtain ⟨cs, h1⟩ := Kd.R_typed L.H.ws k hk
  rw [e, L.H.blk] at h1
  cases h1
theorem Lie.g_vh (L : Lie S w g st vw vh ow oh mb n) : ∀ k, vh.ownBlock = some k → k ≠ g := fun k hk e => by
  obtain ⟨cs, h1⟩ := Kd.R_typed L.H.hs k hk
  rw [e, L.H.blk] at h1
  cases h1
theorem Lie.g_ow (L : Lie S w g st vw vh ow oh mb n) : ∀ k, ow.ownBlock = some k → k ≠ g := fun k hk e => by
  obtain ⟨cs, h1⟩ := Kd.R_typed L.ows k hk
  rw [e, L.H.blk] at h1
  cases h1
theorem Lie.g_oh (L : Lie S w g st vw vh ow oh mb n) : ∀ k, oh.ownBlock = some k → k ≠ g := fun k hk e => by
  obtain ⟨cs, h1⟩ := Kd.R_typed L.ohs k hk
  rw [e, L.H.blk] at h1
  cases h1
theorem Lie.mb_g (L : Lie S w g st vw vh ow oh mb n) : mb ≠ g := map_ne L.map L.H.blk
theorem Lie.mb_vw (L : Lie S w g st vw vh ow oh mb n) : vw.ownBlock ≠ some mb := fun e => by
  obtain ⟨cs, h1⟩ := Kd.R_typed L.H.ws mb e
  exact map_ne L.map h1 rfl
theorem Lie.mb_vh (L : Lie S w g st vw vh ow oh mb n) : vh.ownBlock ≠ some mb := fun e => by
  obtain ⟨cs, h1⟩ := Kd.R_typed L.H.hs mb e
  exact map_ne L.map h1 rfl
/-- What turns the half in use alone. -/
theorem Lie.now (L : Lie S w g st vw vh ow oh mb n) {os' : List O} {vw' vh' : Value} (H' : Half w' g st.size st.half st.f st.f2 ow oh (.map (some mb)) vw' vh' os') (aw : At w vw vw') (ah : At w vh vh')
    (fr : Fr (fun k => k = g ∨ vw.ownBlock = some k ∨ vh.ownBlock = some k) w w') (fit : ((flat os').length : Int) ≤ st.size) (hn : st.os.length ≤ os'.length) :
    Lie (fun k => S k ∨ w.heap.size ≤ k) w' g { st with os := os' } vw' vh' ow oh mb n where
  H := H'
  sz := L.sz
  hf := L.hf
  fit := fit
  ofit := L.ofit
  ows := keepW L.ows fr (fun k hk => by
    rintro (h | h | h)
    · exact L.g_ow k hk h
    · exact L.apW k h hk
    · exact WH_ne L.ows L.H.hs k hk h)
  ohs := keepH L.ohs fr (fun k hk => by
    rintro (h | h | h)
    · exact L.g_oh k hk h
    · exact WH_ne L.H.ws L.ohs k h hk
    · exact L.apH k h hk)
  ook := L.ook
  map := keepMap L.map (fr.same mb L.map.lt (by
    rintro (h | h | h)
    · exact L.mb_g h
    · exact L.mb_vw h
    · exact L.mb_vh h))
  mn := Nat.le_trans L.mn hn
  apW := fun k hk e => by
    rcases aw with h | ⟨b, h, hb⟩
    · exact L.apW k (h ▸ hk) e
    · rw [h] at hk; cases hk
      exact absurd (Kd.R_lt L.ows _ e) (by omega)
  apH := fun k hk e => by
    rcases ah with h | ⟨b, h, hb⟩
    · exact L.apH k (h ▸ hk) e
    · rw [h] at hk; cases hk
      exact absurd (Kd.R_lt L.ohs _ e) (by omega)
  s1 := .inl L.s1
  s2 := .inl L.s2
  s3 := fun k hk => by
    rcases aw with h | ⟨b, h, hb⟩
    · exact .inl (L.s3 k (h ▸ hk))
    · rw [h] at hk; cases hk; exact .inr hb
  s4 := fun k hk => by
    rcases ah with h | ⟨b, h, hb⟩
    · exact .inl (L.s4 k (h ▸ hk))
    · rw [h] at hk; cases hk; exact .inr hb
  s5 := fun k hk => .inl (L.s5 k hk)
  s6 := fun k hk => .inl (L.s6 k hk)
theorem Lie.keep (L : Lie S w g st vw vh ow oh mb n) {T : Nat → Prop} (fr : Fr T w w') (hT : ∀ k, S k → ¬ T k) : Lie S w' g st vw vh ow oh mb n where
  H := ⟨(fr.same g (blk_lt L.H.blk) (hT g L.s1)).trans L.H.blk, keepW L.H.ws fr (fun k hk => hT k (L.s3 k hk)), keepH L.H.hs fr (fun k hk => hT k (L.s4 k hk)), L.H.ok, L.H.hf, L.H.hl⟩
  sz := L.sz
  hf := L.hf
  fit := L.fit
  ofit := L.ofit
  ows := keepW L.ows fr (fun k hk => hT k (L.s5 k hk))
  ohs := keepH L.ohs fr (fun k hk => hT k (L.s6 k hk))
  ook := L.ook
  map := keepMap L.map (fr.same mb L.map.lt (hT mb L.s2))
  mn := L.mn
  apW := L.apW
  apH := L.apH
  s1 := L.s1
  s2 := L.s2
  s3 := L.s3
  s4 := L.s4
  s5 := L.s5
  s6 := L.s6
theorem Lie.more (L : Lie S w g st vw vh ow oh mb n) {T : Nat → Prop} (h : ∀ k, S k → T k) : Lie T w g st vw vh ow oh mb n :=
  ⟨L.H, L.sz, L.hf, L.fit, L.ofit, L.ows, L.ohs, L.ook, L.map, L.mn, L.apW, L.apH, h _ L.s1, h _ L.s2, fun k hk => h k (L.s3 k hk), fun k hk => h k (L.s4 k hk), fun k hk => h k (L.s5 k hk), fun k hk => h k (L.s6 k hk)⟩
/-- Of a world that only grew, and turned what T names, nothing of a memory has turned. -/
theorem IsMem.keep (M : IsMem S w g st) {T : Nat → Prop} (fr : Fr T w w') (hT : ∀ k, S k → ¬ T k) : IsMem S w' g st := by
  obtain ⟨vw, vh, ow, oh, mb, n, L⟩ := M
  exact ⟨vw, vh, ow, oh, mb, n, L.keep fr hT⟩
theorem Fr.own (L : Lie S w g st vw vh ow oh mb n) (fr : Fr (fun k => k = g ∨ vw.ownBlock = some k ∨ vh.ownBlock = some k) w w') : Fr S w w' := fr.mono (fun k _ h => by
  rcases h with h | h | h
  · exact h ▸ L.s1
  · exact L.s3 k h
  · exact L.s4 k h)
/-- The only memory of a run: it lies in blocks made since the beginning. -/
def One (w0 w : World) (g : Nat) (st : St) : Prop := Below w0.heap.size w0 w ∧ IsMem (fun k => w0.heap.size ≤ k) w g st
theorem One.of {w0 : World} (h : Below w0.heap.size w0 w) {T : Nat → Prop} (fr : Fr (fun k => w0.heap.size ≤ k) w w') (M : IsMem T w' g st) (hT : ∀ k, T k → w0.heap.size ≤ k) : One w0 w' g st := by
  obtain ⟨vw, vh, ow, oh, mb, n, L⟩ := M
  refine ⟨h.trans ⟨fr.low.os, fr.low.tape, fr.low.output, fr.low.size, fun k hk => fr.same k (Nat.lt_of_lt_of_le hk h.size) (by omega)⟩, vw, vh, ow, oh, mb, n, L.more hT⟩
theorem One.drawn {w0 : World} (M : One w0 w g st) (hd : Drawn0 w w') : One w0 w' g st :=
  One.of M.1 (Fr.of_drawn hd) (M.2.keep (T := fun _ => False) (Fr.of_drawn hd) (fun _ _ h => h)) (fun _ h => h)
/-! ### The calls -/
theorem one_new (n : Int) (w : World) (h : 64 ≤ n ∧ n ≤ 65536) :
    Calls Try.prog 42 #[.int .i64 n] w fun e w' => ∃ g, e = .returned (.tuple #[.pointer (some ⟨g, 0, none⟩), .int .i64 0]) ∧ One w w' g ⟨n, 0, [], [], .map []⟩ := by
  refine (new_in n w h.1 h.2).mono ?_
  rintro e w' ⟨g, mb, rfl, hg, hmb, hne, hblk, hmap, hB⟩
  have e1 : (⟨n, 0, [], [], .map []⟩ : St).f = 1 := by simp [St.f]
  have e2 : (⟨n, 0, [], [], .map []⟩ : St).f2 = n + 1 := by simp [St.f2]; omega
  refine ⟨g, rfl, hB, .slice none 0 0, .slice none 0 0, .slice none 0 0, .slice none 0 0, mb, 0, ?_, h, .inl rfl, by simp [flat]; omega, by simp [flat]; omega, Kd.R_nil _ _ _ _ _, Kd.R_nil _ _ _ _ _, fun o ho => by simp at ho, ?_, Nat.le_refl _,
    fun k hk => by simp [Value.ownBlock] at hk, fun k hk => by simp [Value.ownBlock] at hk, hg, hmb, fun k hk => by simp [Value.ownBlock] at hk, fun k hk => by simp [Value.ownBlock] at hk, fun k hk => by simp [Value.ownBlock] at hk, fun k hk => by simp [Value.ownBlock] at hk⟩
  · rw [e1, e2]; exact made_half h hblk
  · exact ⟨#[], 0, hmap, ⟨by simp, MapKept.stamped_empty 0, by simp⟩, Nat.le_refl _, rfl⟩
def newO (k : Int) (n q : Nat) : O := ⟨k, q, List.replicate q 1 ++ List.replicate (n - q) 0⟩
theorem newO_len (k : Int) (n q : Nat) (h : q ≤ n) : (newO k n q).fs.length = n := by simp [newO]; omega
theorem flat_new (os : List O) (k : Int) (n q : Nat) (h : q ≤ n) : (flat (os ++ [newO k n q])).length = (flat os).length + n + 1 := by
  rw [flat_append, flat_one, List.length_append, row_length, newO_len k n q h]; omega
theorem IsMem.alloc (M : IsMem S w g st) (k : Int) (n q : Nat) (hr : rightB k n q = true) (hfree : ((flat st.os).length : Int) + n + 1 ≤ st.size) :
    Calls Try.prog 36 #[.pointer (some ⟨g, 0, none⟩), .int .i64 k, .int .i64 n, .int .i64 q] w fun e w' =>
      e = .returned (.tuple #[.int .i64 (st.f + ((flat st.os).length : Int)), .int .i64 0]) ∧ IsMem (fun k => S k ∨ w.heap.size ≤ k) w' g { st with os := st.os ++ [newO k n q] } ∧ Fr S w w' := by
  obtain ⟨vw, vh, ow, oh, mb, m, L⟩ := M
  obtain ⟨p1, p2, p3, p4, p5, p6⟩ := Hf.right_parts hr
  refine (L.H.alloc k n q hr (by have := L.sz; omega) hfree).mono ?_
  rintro e w' ⟨rfl, vw', vh', H', aw, ah, fr⟩
  exact ⟨rfl, ⟨vw', vh', ow, oh, mb, m, L.now H' aw ah fr (by rw [flat_new _ _ _ _ (by omega)]; omega) (by simp)⟩, Fr.own L fr⟩
theorem One.alloc {w0 : World} (M : One w0 w g st) (k : Int) (n q : Nat) (hr : rightB k n q = true) (hfree : ((flat st.os).length : Int) + n + 1 ≤ st.size) :
    Calls Try.prog 36 #[.pointer (some ⟨g, 0, none⟩), .int .i64 k, .int .i64 n, .int .i64 q] w fun e w' =>
      e = .returned (.tuple #[.int .i64 (st.f + ((flat st.os).length : Int)), .int .i64 0]) ∧ One w0 w' g { st with os := st.os ++ [newO k n q] } := by
  refine (M.2.alloc k n q hr hfree).mono ?_
  rintro e w' ⟨he, h1, h2⟩
  exact ⟨he, One.of M.1 h2 h1 (fun k hk => by
    rcases hk with hk | hk
    · exact hk
    · exact Nat.le_trans M.1.size hk)⟩
theorem IsMem.alloc_full (M : IsMem S w g st) (k n q : Int) (hr : rightB k n q = true) (hfree : st.size < ((flat st.os).length : Int) + n + 1) :
    Calls Try.prog 36 #[.pointer (some ⟨g, 0, none⟩), .int .i64 k, .int .i64 n, .int .i64 q] w fun e w' => e = .returned (.tuple #[.int .i64 0, .int .i64 21]) ∧ Drawn0 w w' := by
  obtain ⟨vw, vh, ow, oh, mb, m, L⟩ := M
  have H := L.H
  obtain ⟨aw, cw, rfl⟩ := Kd.R_slice H.ws
  exact Mem.alloc_full w g _ _ _ _ _ _ _ _ _ _ _ k n q (by have := L.sz; omega) H.hl hr (by omega) H.blk
theorem IsMem.next (M : IsMem S w g st) : Calls Try.prog 60 #[.pointer (some ⟨g, 0, none⟩)] w fun e w' => e = .returned (.int .i64 (st.f + ((flat st.os).length : Int))) ∧ Drawn0 w w' := by
  obtain ⟨vw, vh, ow, oh, mb, m, L⟩ := M
  exact L.H.next 0
theorem IsMem.free (M : IsMem S w g st) : Calls Try.prog 32 #[.pointer (some ⟨g, 0, none⟩)] w fun e w' => e = .returned (.int .i64 (st.size - ((flat st.os).length : Int))) ∧ Drawn0 w w' := by
  obtain ⟨vw, vh, ow, oh, mb, m, L⟩ := M
  exact L.H.free (by have := L.sz; omega) 0
theorem IsMem.halfc (M : IsMem S w g st) : Calls Try.prog 30 #[.pointer (some ⟨g, 0, none⟩)] w fun e w' => e = .returned (.int .i64 st.half) ∧ w' = w := by
  obtain ⟨vw, vh, ow, oh, mb, m, L⟩ := M
  exact half_any L.H
theorem IsMem.load (M : IsMem S w g st) (i j : Nat) (hi : i < st.os.length) (hj : j < st.os[i].fs.length) :
    Calls Try.prog 56 #[.pointer (some ⟨g, 0, none⟩), .int .i64 (st.f + (pos st.os i : Int)), .int .i64 j] w fun e w' => e = .returned (.tuple #[.int .u64 (st.os[i].fs.getD j 0), .int .i64 0]) ∧ Drawn0 w w' := by
  obtain ⟨vw, vh, ow, oh, mb, m, L⟩ := M
  exact load_yes L.H i j hi hj
theorem IsMem.load_no (M : IsMem S w g st) (a x : Int) (ha : -9223372036854775808 ≤ a ∧ a ≤ 9223372036854775807) (hx : -9223372036854775808 ≤ x ∧ x ≤ 9223372036854775807) (hn : NoField st.f st.os a x) :
    Calls Try.prog 56 #[.pointer (some ⟨g, 0, none⟩), .int .i64 a, .int .i64 x] w fun e w' => e = .returned (.tuple #[.int .u64 0, .int .i64 20]) ∧ Drawn0 w w' := by
  obtain ⟨vw, vh, ow, oh, mb, m, L⟩ := M
  exact Mem.load_no L.H a x ha hx hn
theorem IsMem.look (M : IsMem S w g st) (i : Nat) (hi : i < st.os.length) :
    Calls Try.prog 34 #[.pointer (some ⟨g, 0, none⟩), .int .i64 (st.f + (pos st.os i : Int))] w fun e w' => e = .returned (.tuple #[.int .i64 st.os[i].kind, .int .i64 st.os[i].fs.length, .int .i64 st.os[i].tag, .int .i64 0]) ∧ Drawn0 w w' := by
  obtain ⟨vw, vh, ow, oh, mb, m, L⟩ := M
  exact look_yes L.H i hi
theorem putO_lens_len (os : List O) (i j : Nat) (v : Int) : (flat (putO os i j v)).length = (flat os).length := by rw [flat_len, flat_len, lens_put]
theorem IsMem.store (M : IsMem S w g st) (i j : Nat) (v : Int) (hi : i < st.os.length) (hj : j < st.os[i].fs.length) (hv : 0 ≤ v ∧ v < 18446744073709551616) :
    Calls Try.prog 44 #[.pointer (some ⟨g, 0, none⟩), .int .i64 (st.f + (pos st.os i : Int)), .int .i64 j, .int .u64 v] w fun e w' => e = .returned (.int .i64 0) ∧ IsMem (fun k => S k ∨ w.heap.size ≤ k) w' g { st with os := putO st.os i j v } ∧ Fr S w w' := by
  obtain ⟨vw, vh, ow, oh, mb, m, L⟩ := M
  refine (store_yes L.H i j v hi hj hv).mono ?_
  rintro e w' ⟨rfl, H', fr⟩
  have fr' : Fr (fun k => k = g ∨ vw.ownBlock = some k ∨ vh.ownBlock = some k) w w' := fr.mono (fun k _ h => .inr (.inl h))
  exact ⟨rfl, ⟨vw, vh, ow, oh, mb, m, L.now H' (.inl rfl) (.inl rfl) fr' (by rw [putO_lens_len]; exact L.fit) (by rw [putO_length]; exact Nat.le_refl _)⟩, Fr.own L fr'⟩
theorem One.store {w0 : World} (M : One w0 w g st) (i j : Nat) (v : Int) (hi : i < st.os.length) (hj : j < st.os[i].fs.length) (hv : 0 ≤ v ∧ v < 18446744073709551616) :
    Calls Try.prog 44 #[.pointer (some ⟨g, 0, none⟩), .int .i64 (st.f + (pos st.os i : Int)), .int .i64 j, .int .u64 v] w fun e w' => e = .returned (.int .i64 0) ∧ One w0 w' g { st with os := putO st.os i j v } := by
  refine (M.2.store i j v hi hj hv).mono ?_
  rintro e w' ⟨he, h1, h2⟩
  exact ⟨he, One.of M.1 h2 h1 (fun k hk => by
    rcases hk with hk | hk
    · exact hk
    · exact Nat.le_trans M.1.size hk)⟩
end Go.Proofs.Ytjccaojlldkmpaa.Mem
