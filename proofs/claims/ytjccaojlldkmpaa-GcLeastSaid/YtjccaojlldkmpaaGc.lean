/- gc.Collect: what can be reached goes into the other half. -/
import Derived.Test.YtjccaojlldkmpaaGq
namespace Go.Proofs.Ytjccaojlldkmpaa.Mem
open Go.RowKit Go.Proofs.YtjccaojlldkmpaaW.PrintWords Go.Proofs.YtjccaojlldkmpaaW.PrintLast Go.Proofs.YtjccaojlldkmpaaW.PrintMore
open Hf (rightB hdr headOf partsOf)
open Rg
set_option linter.unusedSimpArgs false
set_option linter.unusedVariables false
set_option maxRecDepth 100000
variable {S : Nat → Prop} {w W W' w' : World} {g n B : Nat} {st : St}
theorem cell_fr {T : Nat → Prop} (fr : Fr T w w') {a : Addr} {u : Value} (h : w.cell? a = some u) (hT : ¬ T a.block) : w'.cell? a = some u := by
  have hlt : a.block < w.heap.size := by
    rcases Nat.lt_or_ge a.block w.heap.size with h1 | h1
    · exact h1
    · rw [World.cell?, Array.getElem?_eq_none h1] at h
      cases h
  unfold World.cell? at h ⊢
  rw [fr.same a.block hlt hT]
  exact h
theorem C_fr {T : Nat → Prop} {k : IntKind} {A : Option Addr} {m : Nat} {xs : List Int} (h : Kd.C (Kd.int k) w A m xs) (fr : Fr T w w') (hT : ∀ ad, A = some ad → ¬ T ad.block) : Kd.C (Kd.int k) w' A m xs := by
  refine ⟨h.1, h.2.1, fun hn => ?_⟩
  obtain ⟨ad, he, hc⟩ := h.2.2 hn
  refine ⟨ad, he, fun j p hj => ?_⟩
  obtain ⟨cs, h1, h2, h3⟩ := hc j p hj
  exact ⟨cs, h1, h2, fun i u hu => cell_fr fr (h3 i u hu) (by rw [add_block]; exact hT ad he)⟩
theorem R_fr {k : IntKind} {e : TypeId} {v : Value} {xs : List Int} {b : Nat} {T : Nat → Prop} (h : (Kd.int k).R e w b (fun _ => True) v xs) (fr : Fr T w w') (hn : ∀ k, v.ownBlock = some k → ¬ T k) : (Kd.int k).R e w' b (fun _ => True) v xs :=
  Kd.R_mono (Kd.R_step (Kd.R_tight rfl h) (fun k hk hl => fr.same k hl (hn k hk.symm))) (fun _ _ => trivial)
theorem IsAt.bound (M : IsAt B S w g st) : IsAt B (fun k => S k ∧ k < w.heap.size ∧ (k < B ∨ ∃ o : Obj, w.heap[k]? = some o ∧ o.isCells = true)) w g st := by
  obtain ⟨vw, vh, ow, oh, mb, n, L, hmb⟩ := M
  have ce : ∀ {u : Value} {xs : List Int} {e : TypeId} {q : IntKind}, (Kd.int q).R e w 0 (fun _ => True) u xs → ∀ k, u.ownBlock = some k → k < w.heap.size ∧ (k < B ∨ ∃ o : Obj, w.heap[k]? = some o ∧ o.isCells = true) := fun h k hk =>
    ⟨Kd.R_lt h k hk, .inr (by obtain ⟨cs, h1⟩ := Kd.R_typed h k hk; exact ⟨_, h1, rfl⟩)⟩
  exact ⟨vw, vh, ow, oh, mb, n, ⟨L.H, L.sz, L.hf, L.fit, L.ofit, L.ows, L.ohs, L.ook, L.map, L.mn, L.apW, L.apH, ⟨L.s1, blk_lt L.H.blk, .inr ⟨_, L.H.blk, rfl⟩⟩, ⟨L.s2, L.map.lt, .inl hmb⟩, fun k hk => ⟨L.s3 k hk, ce L.H.ws k hk⟩, fun k hk => ⟨L.s4 k hk, ce L.H.hs k hk⟩, fun k hk => ⟨L.s5 k hk, ce L.ows k hk⟩, fun k hk => ⟨L.s6 k hk, ce L.ohs k hk⟩⟩, hmb⟩
theorem Cq.bound {st0 : St} {L l : List Int} {os : List O} (C : Cq B S w g st0 L l os) : Cq B (fun k => S k ∧ k < w.heap.size ∧ (k < B ∨ ∃ o : Obj, w.heap[k]? = some o ∧ o.isCells = true)) w g st0 L l os := by
  obtain ⟨D, C⟩ := C
  exact ⟨D, C.mem.bound, C.isMap, C.yes, C.no, C.lens, C.pre, C.ord, C.size, C.half⟩
/-- The footprint of the memory on its way, beside what the call itself made. -/
structure Foot (B : Nat) (w W : World) (S0 S : Nat → Prop) (bm b7 : Nat) (vo : Value) (X : Nat → Obj → Prop) : Prop where
  up : ∀ k, S k → S0 k ∨ w.heap.size ≤ k
  nm : ¬ S bm
  nf : ¬ S b7
  no : ∀ k, vo.ownBlock = some k → ¬ S k
  lt : ∀ k, S k → k < W.heap.size
  nx : ∀ k o, X k o → ¬ S k
  ce : ∀ k, S k → k < B ∨ ∃ o : Obj, W.heap[k]? = some o ∧ o.isCells = true
structure Co (B : Nat) (X : Nat → Obj → Prop) (w W : World) (g bm b7 : Nat) (S0 : Nat → Prop) (st0 : St) (L l : List Int) (os : List O) (vo : Value) (outs : List Int) : Prop where
  c : ∃ S, Cq B S W g st0 L l os ∧ Foot B w W S0 S bm b7 vo X
  m : W.heap[bm]? = some (.cells #[.pointer (some ⟨g, 0, none⟩)] 26 (0, 0))
  f : W.heap[b7]? = some (.cells #[.func (.func 51) #[] #[.pointer (some ⟨bm, 0, none⟩)]] 83 (0, 0))
  o : (Kd.int .u64).R 56 W w.heap.size (fun _ => True) vo outs
  fr : Fr S0 w W
  g1 : w.heap.size ≤ bm
  g2 : w.heap.size ≤ b7
  x : ∀ k o, X k o → W.heap[k]? = some o
variable {X : Nat → Obj → Prop}
variable {bm b7 : Nat} {S0 : Nat → Prop} {st0 : St} {L l l2 : List Int} {os os2 : List O} {vo : Value} {outs : List Int}
theorem Fr.down {w W : World} (h : ∀ k, S k → S0 k ∨ w.heap.size ≤ k) (fr0 : Fr S0 w W) (fr : Fr S W W') : Fr S0 w W' :=
  ⟨⟨fr.low.os.trans fr0.low.os, fr.low.tape.trans fr0.low.tape, fr.low.output.trans fr0.low.output, Nat.le_trans fr0.low.size fr.low.size, fun k hk => absurd hk (Nat.not_lt_zero k)⟩,
    fun k hk hn => (fr.same k (Nat.lt_of_lt_of_le hk fr0.low.size) (fun hs => by rcases h k hs with h | h; exact hn h; omega)).trans (fr0.same k hk hn)⟩
theorem Co.turn (K : Co B X w W g bm b7 S0 st0 L l os vo outs) {S : Nat → Prop} (F : Foot B w W S0 S bm b7 vo X) (C : Cq B (fun k => S k ∨ W.heap.size ≤ k) W' g st0 L l2 os2) (fr : Fr S W W') : Co B X w W' g bm b7 S0 st0 L l2 os2 vo outs where
  c := ⟨_, C.bound, {
    up := fun k hk => by
      rcases hk.1 with h | h
      · exact F.up k h
      · exact .inr (Nat.le_trans K.fr.low.size h)
    nm := fun hk => by
      rcases hk.1 with h | h
      · exact F.nm h
      · have := blk_lt K.m; omega
    nf := fun hk => by
      rcases hk.1 with h | h
      · exact F.nf h
      · have := blk_lt K.f; omega
    no := fun k hv hk => by
      rcases hk.1 with h | h
      · exact F.no k hv h
      · have := Kd.R_lt K.o k hv; omega
    lt := fun k hk => hk.2.1
    ce := fun k hk => hk.2.2
    nx := fun k o hx hk => by
      rcases hk.1 with h | h
      · exact F.nx k o hx h
      · have := (Array.getElem?_eq_some_iff.1 (K.x k o hx)).1; omega }⟩
  m := (fr.same _ (blk_lt K.m) F.nm).trans K.m
  f := (fr.same _ (blk_lt K.f) F.nf).trans K.f
  o := R_fr K.o fr F.no
  fr := Fr.down F.up K.fr fr
  g1 := K.g1
  g2 := K.g2
  x := fun k o hx => (fr.same k (Array.getElem?_eq_some_iff.1 (K.x k o hx)).1 (F.nx k o hx)).trans (K.x k o hx)
theorem Co.drawn (K : Co B X w W g bm b7 S0 st0 L l os vo outs) (hd : Drawn0 W W') : Co B X w W' g bm b7 S0 st0 L l os vo outs := by
  obtain ⟨S, C, F⟩ := K.c
  exact K.turn F ((C.drawn hd).more (fun k h => .inl h)) (Fr.of_drawn hd)
/-- A turn of what is not the memory's. -/
theorem Co.grown (K : Co B (fun _ _ => False) w W g bm b7 S0 st0 L l os vo outs) {vo' : Value} {outs' : List Int} (ho : (Kd.int .u64).R 56 W' w.heap.size (fun _ => True) vo' outs') (hg : W.grownBy W' vo.ownBlock)
    (hat : vo'.ownBlock = vo.ownBlock ∨ ∃ b, vo'.ownBlock = some b ∧ W.heap.size ≤ b) : Co B (fun _ _ => False) w W' g bm b7 S0 st0 L l os vo' outs' := by
  obtain ⟨S, C, F⟩ := K.c
  have fr : Fr (fun k => vo.ownBlock = some k) W W' := Fr.of_grown hg (fun k e => e)
  have ne : ∀ {k : Nat} {cs : Array Value} {t : TypeId}, W.heap[k]? = some (.cells cs t (0, 0)) → t ≠ 56 → ¬ vo.ownBlock = some k := fun hk ht e => by
    obtain ⟨cs, h⟩ := Kd.R_typed K.o _ e
    rw [hk] at h
    cases h
    exact ht rfl
  refine ⟨⟨S, C.keep fr (fun k hs hv => F.no k hv hs), ⟨F.up, F.nm, F.nf, fun k hv hs => ?_, fun k hs => Nat.lt_of_lt_of_le (F.lt k hs) fr.low.size, fun _ _ h => h.elim, fun k hs => (F.ce k hs).imp id (fun ⟨o, h1, h2⟩ => ⟨o, (fr.same k (F.lt k hs) (fun hv => F.no k hv hs)).trans h1, h2⟩)⟩⟩, (fr.same _ (blk_lt K.m) (ne K.m (by decide))).trans K.m, (fr.same _ (blk_lt K.f) (ne K.f (by decide))).trans K.f, ho, ?_, K.g1, K.g2, fun _ _ h => h.elim⟩
  · rcases hat with h | ⟨b, h, hb⟩
    · exact F.no k (h ▸ hv) hs
    · rw [h] at hv
      cases hv
      have := F.lt _ hs
      omega
  · exact Fr.down (S := fun k => vo.ownBlock = some k) (fun k hv => .inr (Kd.R_base K.o k hv)) K.fr fr
theorem Foot.keeps {S : Nat → Prop} (F : Foot B w W S0 S bm b7 vo X) (fr : Fr S W W') {B' : Nat} (hB : B ≤ B') : KeepsFrom B' W W' :=
  ⟨fr.low.size, fun k o hk ho hc => (fr.same k (Array.getElem?_eq_some_iff.1 ho).1 (fun hs => by
    rcases F.ce k hs with h | ⟨o', h1, h2⟩
    · omega
    · rw [ho] at h1
      cases h1
      rw [hc] at h2
      cases h2)).trans ho⟩
/-- The moved word of a root or a field. -/
theorem Co.moved (K : Co B X w W g bm b7 S0 st0 L l os vo outs) {x : Int} (hxr : 0 ≤ x ∧ x < 18446744073709551616) (hadd : add1 st0.f st0.os l x = some l2) (hp2 : l2 <+: L) :
    Calls Try.prog 51 #[.int .u64 x, .pointer (some ⟨bm, 0, none⟩)] W fun e W' => e = .returned (.int .u64 (cw st0.f2 st0.f st0.os L x)) ∧ Co B X w W' g bm b7 S0 st0 L l2 (os ++ (l2.drop l.length).map (obAt st0.f st0.os)) vo outs ∧ ∀ B', B ≤ B' → KeepsFrom B' W W' := by
  obtain ⟨S, C, F⟩ := K.c
  refine (moved_any C hxr hadd hp2 bm K.m F.nm).mono ?_
  rintro e W' ⟨he, C', fr⟩
  exact ⟨he, K.turn F C' fr, fun B' hB => F.keeps fr hB⟩
theorem Co.bel (K : Co B X w W g bm b7 S0 st0 L l os vo outs) : Fr S0 w W := K.fr
theorem Co.look (K : Co B X w W g bm b7 S0 st0 L l os vo outs) (i : Nat) (hi : i < os.length) :
    Calls Try.prog 34 #[.pointer (some ⟨g, 0, none⟩), .int .i64 (st0.f2 + (pos os i : Int))] W fun e w' => e = .returned (.tuple #[.int .i64 os[i].kind, .int .i64 os[i].fs.length, .int .i64 os[i].tag, .int .i64 0]) ∧ Drawn0 W w' := by
  obtain ⟨S, ⟨D, C⟩, F⟩ := K.c
  exact C.mem.mem.look i hi
theorem Co.load (K : Co B X w W g bm b7 S0 st0 L l os vo outs) (i j : Nat) (hi : i < os.length) (hj : j < os[i].fs.length) :
    Calls Try.prog 56 #[.pointer (some ⟨g, 0, none⟩), .int .i64 (st0.f2 + (pos os i : Int)), .int .i64 j] W fun e w' => e = .returned (.tuple #[.int .u64 (os[i].fs.getD j 0), .int .i64 0]) ∧ Drawn0 W w' := by
  obtain ⟨S, ⟨D, C⟩, F⟩ := K.c
  exact C.mem.mem.load i j hi hj
theorem Co.store (K : Co B X w W g bm b7 S0 st0 L l os vo outs) (i j : Nat) (v : Int) (hi : i < os.length) (hj : j < os[i].fs.length) (hv : 0 ≤ v ∧ v < 18446744073709551616) :
    Calls Try.prog 44 #[.pointer (some ⟨g, 0, none⟩), .int .i64 (st0.f2 + (pos os i : Int)), .int .i64 j, .int .u64 v] W fun e w' => e = .returned (.int .i64 0) ∧ Co B X w w' g bm b7 S0 st0 L l (putO os i j v) vo outs ∧ ∀ B', B ≤ B' → KeepsFrom B' W w' := by
  obtain ⟨S, ⟨D, C⟩, F⟩ := K.c
  refine (C.mem.store i j v hi hj hv).mono ?_
  rintro e W' ⟨he, hM, fr⟩
  exact ⟨he, K.turn F ⟨D, hM, C.isMap, C.yes, C.no, (lens_put os i j v).trans C.lens, C.pre, C.ord, C.size, C.half⟩ fr, fun B' hB => F.keeps fr hB⟩
theorem Co.fbound (K : Co B X w W g bm b7 S0 st0 L l os vo outs) : 1 ≤ st0.f2 ∧ st0.f2 ≤ 200000 ∧ (flat os).length ≤ 65536 ∧ (flat st0.os).length ≤ 65536 := by
  obtain ⟨S, ⟨D, C⟩, F⟩ := K.c
  obtain ⟨h1, h2, h3⟩ := C.mem.mem.fbound
  have hsz := C.size
  have hof : ((flat st0.os).length : Int) ≤ st0.size := by
    obtain ⟨vw, vh, ow, oh, mb, n, LL⟩ := C.mem.mem
    exact LL.ofit
  exact ⟨h1, h2, h3, by omega⟩
theorem Co.olen (K : Co B X w W g bm b7 S0 st0 L l os vo outs) : os.length = l.length := by
  obtain ⟨S, ⟨D, C⟩, F⟩ := K.c
  have := congrArg List.length C.lens
  simpa using this
theorem IsMem.lt (M : IsMem S w g st) : (64 ≤ st.size ∧ st.size ≤ 65536) ∧ (st.half = 0 ∨ st.half = 1) ∧ ((flat st.os).length : Int) ≤ st.size := by
  obtain ⟨vw, vh, ow, oh, mb, n, L⟩ := M
  exact ⟨L.sz, L.hf, L.fit⟩
set_option maxHeartbeats 1000000 in
theorem Co.start (hlt : ∀ k, S0 k → k < w.heap.size) (hL : Ord st0.f st0.os L) (hs : (64 ≤ st0.size ∧ st0.size ≤ 65536) ∧ (st0.half = 0 ∨ st0.half = 1)) {w2 w3 w4 : World} (h1 : Below (w.heap.size + 1) (w.alloc (.cells #[.pointer (some ⟨g, 0, none⟩)] 26)) w2)
    (M3 : IsMem (fun k => S0 k ∨ w2.heap.size ≤ k) w3 g st0.flip) (fr : Fr S0 w2 w3) (h4 : Below w3.heap.size w3 w4) (hbox : w4.heap[b7]? = some (.cells #[.nilFunc] 83 (0, 0))) (hb7 : b7 = w3.heap.size) :
    Co w3.heap.size (fun _ _ => False) w (w4.setCell ⟨b7, 0, none⟩ (.func (.func 51) #[] #[.pointer (some ⟨w.heap.size, 0, none⟩)])) g w.heap.size b7 S0 st0 L [] [] (.slice none 0 0) [] := by
  have hs2 : w.heap.size + 1 ≤ w2.heap.size := by have := h1.size; simpa using this
  have hs3 := fr.low.size
  have hs4 := h4.size
  have hm2 : w2.heap[w.heap.size]? = some (.cells #[.pointer (some ⟨g, 0, none⟩)] 26 (0, 0)) := (h1.block _ (Nat.lt_succ_self _)).trans (blk_new w _)
  have hnb : ¬ S0 w.heap.size := fun h => absurd (hlt _ h) (Nat.lt_irrefl _)
  have hm3 := (fr.same _ (by omega) hnb).trans hm2
  have hm4 := (h4.block _ (by omega)).trans hm3
  have fr5 : Fr (fun k => k = b7) w4 (w4.setCell ⟨b7, 0, none⟩ (.func (.func 51) #[] #[.pointer (some ⟨w.heap.size, 0, none⟩)])) := Fr.of_set w4 ⟨b7, 0, none⟩ _ rfl
  have M5 : IsAt w3.heap.size (fun k => (S0 k ∨ w2.heap.size ≤ k) ∧ k < w3.heap.size ∧ (k < w3.heap.size ∨ ∃ o : Obj, w3.heap[k]? = some o ∧ o.isCells = true)) (w4.setCell ⟨b7, 0, none⟩ (.func (.func 51) #[] #[.pointer (some ⟨w.heap.size, 0, none⟩)])) g st0.flip :=
    (((M3.at_ (Nat.le_refl _)).bound).keep (T := fun k => w3.heap.size ≤ k) (w' := w4) ⟨h4.mono (Nat.zero_le _), fun k hk _ => h4.block k hk⟩ (fun k h h2 => by omega)).keep fr5 (fun k h e => by omega)
  refine ⟨⟨_, ⟨.map [], M5, Maps.isMap_empty, fun p h => absurd h (Nat.not_lt_zero p), fun a _ => rfl, rfl, List.nil_prefix, hL, hs.1, hs.2⟩, ⟨?_, ?_, ?_, fun k hk => by simp [Value.ownBlock] at hk, ?_, fun _ _ h => h.elim, fun k h => .inl h.2.1⟩⟩, ?_, blk_put hbox 0 _ rfl, Kd.R_nil _ _ _ _ _, ?_, Nat.le_refl _, by omega, fun _ _ h => h.elim⟩
  · rintro k ⟨h | h, -, -⟩
    · exact .inl h
    · exact .inr (by omega)
  · rintro ⟨h | h, -, -⟩
    · exact hnb h
    · omega
  · rintro ⟨-, h, -⟩
    omega
  · rintro k ⟨-, h, -⟩
    rw [World.size_setCell]
    omega
  · exact (fr5.same _ (blk_lt hm4) (fun e => by omega)).trans hm4
  · refine ⟨⟨h4.os.trans (fr.low.os.trans h1.os), h4.tape.trans (fr.low.tape.trans h1.tape), h4.output.trans (fr.low.output.trans h1.output), by rw [World.size_setCell]; omega, fun k hk => absurd hk (Nat.not_lt_zero k)⟩, fun k hk hn => ?_⟩
    exact ((((fr5.same k (by omega) (fun e => by omega)).trans (h4.block k (by omega))).trans (fr.same k (by omega) hn)).trans (h1.block k (by omega))).trans ((below_alloc (Below.refl _ w) _).block k hk)
/-- A box beside. -/
theorem Co.box (K : Co B (fun _ _ => False) w W g bm b7 S0 st0 L l os vo outs) (o : Obj) : Co B (fun k o' => k = W.heap.size ∧ o' = o) w (W.alloc o) g bm b7 S0 st0 L l os vo outs := by
  obtain ⟨S, C, F⟩ := K.c
  have hb := below_alloc (Below.refl _ W) o
  refine ⟨⟨S, C.keep (T := fun _ => False) (Fr.of_below hb) (fun _ _ h => h), F.up, F.nm, F.nf, F.no, fun k hk => Nat.lt_of_lt_of_le (F.lt k hk) hb.size, fun k o' h hs => ?_, fun k hs => (F.ce k hs).imp id (fun ⟨o, h1, h2⟩ => ⟨o, (hb.block k (F.lt k hs)).trans h1, h2⟩)⟩, blk_alloc K.m _, blk_alloc K.f _, Kd.R_alloc K.o _, K.fr.trans (Fr.of_below hb), K.g1, K.g2, fun k o' h => ?_⟩
  · have := F.lt k hs
    omega
  · obtain ⟨rfl, rfl⟩ := h
    exact blk_new W _
/-- A range over a function writes its own records. -/
theorem Co.kept (K : Co B X w W g bm b7 S0 st0 L l os vo outs) {B' : Nat} {row : Option Nat} (hg : W.grownBy W' row) (h : ∀ r, row = some r → B' ≤ r ∧ ∃ o : Obj, W.heap[r]? = some o ∧ o.isCells = false) (hB : B ≤ B') (hw : w.heap.size ≤ B')
    (hX : ∀ k o, X k o → o.isCells = true) : Co B X w W' g bm b7 S0 st0 L l os vo outs := by
  obtain ⟨S, ⟨D, C⟩, F⟩ := K.c
  have fr : Fr (fun k => row = some k) W W' := Fr.of_grown hg (fun k e => e)
  have nc : ∀ {k : Nat} {o : Obj}, W.heap[k]? = some o → o.isCells = true → ¬ row = some k := fun hk ho e => by
    obtain ⟨-, o', h1, h2⟩ := h _ e
    rw [hk] at h1
    cases h1
    rw [ho] at h2
    cases h2
  have M' : IsAt B S W' g (cst st0 os D) := isAt_own (B := B) S g (fun (_ : Unit) => cst st0 os D) () W W' row C.mem hg (fun r e => ⟨Nat.le_trans hB (h r e).1, (h r e).2⟩)
  refine ⟨⟨S, ⟨D, M', C.isMap, C.yes, C.no, C.lens, C.pre, C.ord, C.size, C.half⟩, F.up, F.nm, F.nf, F.no, fun k hk => Nat.lt_of_lt_of_le (F.lt k hk) fr.low.size, F.nx, fun k hs => (F.ce k hs).imp id (fun ⟨o, h1, h2⟩ => ⟨o, (fr.same k (F.lt k hs) (nc h1 h2)).trans h1, h2⟩)⟩, (fr.same _ (blk_lt K.m) (nc K.m rfl)).trans K.m, (fr.same _ (blk_lt K.f) (nc K.f rfl)).trans K.f,
    R_fr K.o fr (fun k hk => ?_), Fr.down (S := fun k => row = some k) (fun k e => .inr (Nat.le_trans hw (h k e).1)) K.fr fr, K.g1, K.g2, fun k o hx => (fr.same k (Array.getElem?_eq_some_iff.1 (K.x k o hx)).1 (nc (K.x k o hx) (hX k o hx))).trans (K.x k o hx)⟩
  obtain ⟨cs, h1⟩ := Kd.R_typed K.o k hk
  exact nc h1 rfl
theorem Co.obj_ok (K : Co B X w W g bm b7 S0 st0 L l os vo outs) (i : Nat) (hi : i < os.length) : O.ok os[i] := by
  obtain ⟨S, ⟨D, C⟩, F⟩ := K.c
  exact C.mem.mem.obj_ok i hi
theorem Co.tag (K : Co B X w W g bm b7 S0 st0 L l os vo outs) (i : Nat) (hi : i < os.length) : ∃ q : Nat, os[i].tag = (q : Int) ∧ q ≤ os[i].fs.length ∧ os[i].fs.length ≤ 16384 := by
  obtain ⟨S, ⟨D, C⟩, F⟩ := K.c
  exact C.mem.mem.tag i hi
theorem cw_range (K : Co B X w W g bm b7 S0 st0 L l os vo outs) {x : Int} (hx : 0 ≤ x ∧ x < 18446744073709551616) (hL : Ord st0.f st0.os L) : 0 ≤ cw st0.f2 st0.f st0.os L x ∧ cw st0.f2 st0.f st0.os L x < 18446744073709551616 := by
  obtain ⟨h1, h2, h3, h4⟩ := K.fbound
  unfold cw
  split
  · exact hx
  · have h5 := ord_fit hL
    have h6 : pos (L.map (obAt st0.f st0.os)) (L.idxOf (x / 2)) ≤ (flat (L.map (obAt st0.f st0.os))).length := pos_mono _ _ (by rw [List.length_map]; exact List.idxOf_le_length)
    omega
end Go.Proofs.Ytjccaojlldkmpaa.Mem
