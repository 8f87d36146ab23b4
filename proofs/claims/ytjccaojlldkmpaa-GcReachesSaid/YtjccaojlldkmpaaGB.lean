/- The texts Rg, Gm, Gp, Gw, Gx, Gr, Gq, Gc, Gd, Ge, Md, Kn4, Hp, Iso in one (a claim holds at most 60 files). -/
import Derived.Test.YtjccaojlldkmpaaPa0
import Derived.RangeFuncNested
import Derived.RangeFuncLeaves
import Derived.Test.YtjccaojlldkmpaaMemA
import Derived.Test.YtjccaojlldkmpaaNumP
import Derived.WalkMore
import Derived.RangeFuncBound
import Derived.RangeFuncCalls
import Derived.RangeFuncBox
import Derived.Shelf.Abstract
import Derived.Shelf.RegionOpen
import Derived.OwnWalkIn
import Derived.TacticsInMore
import Derived.LoopNIn
import Derived.LoopIn
import Derived.WideLaws
import Derived.OrdersIn
import Derived.Deep.RegionHeld3
import Derived.TacticsIn
import Derived.Test.YtjccaojlldkmpaaPa2
import Derived.Test.YtjccaojlldkmpaaPa1
import Derived.Test.YtjccaojlldkmpaaPa3
import Derived.Deep.Slices
import Derived.Deep.Fields
import Derived.ChangeSame
/- A range over a function whose rounds are counted and go on one and all: the yielded values are known from the count. -/
namespace Go.Proofs.Ytjccaojlldkmpaa.Rg
open Go.RowKit
set_option linter.unusedSimpArgs false
set_option linter.unusedVariables false
variable {F : Fence} {n : Nat} {P : Program}
/-- How a round is left: it goes on. -/
def goesOn (B : Nat) (I : Nat → World → Prop) (k : Nat) (W : World) : Exit → Act → World → Prop
  | .normal, _, W' => KeepsFrom B W W' ∧ I (k + 1) W'
  | _, _, _ => False
/-- What the iterator has to show: it yields the counted values one by one, as long as there are any. -/
def Feeds (F : Fence) (m : Nat) (P : Program) (gf : Nat) (lb : Array Value) (encs : Nat → Array Value) (N : Nat) (I : Nat → World → Prop) (w : World) : Prop :=
  ∀ (l : Nat) (J : Nat → World → Prop) (W : World), Below w.heap.size w W → (∀ k W1, J k W1 → I k W1) →
    (∀ k W1, J k W1 → k < N → YieldAt F (m - 1) P l (encs k) W1 fun e W' => e = .returned (.bool true) ∧ J (k + 1) W') → J 0 W →
    CallsIn F m P gf (#[.func (.yield l) #[] #[]] ++ lb) W fun e W' => (∃ v, e = .returned v) ∧ J N W'
theorem range_all {g : Operand} {ps : Array Tmp} {assign body : Code} {Q : Exit → Act → World → Prop} {a : Act} {w : World} (hro : F.round = none) (h1 : 1 ≤ n) {gf : Nat} {lb : Array Value}
    (hg : a.eval g = .func (.func gf) #[] lb) (hFg : F.fn gf) (eg : ∀ args w, (callFunc gf args).run P w = .ok (.enter gf args) w) {encs : Nat → Array Value} {N : Nat} (I : Nat → World → Prop) {w0 : World}
    (hseq : Feeds F (n - 1) P gf lb encs N I w0) (hb0 : Below w0.heap.size w0 w) (hps : ∀ k, (encs k).size = ps.size) (hI : OwnFrom w.heap.size I) (h0 : I 0 w) (a₁ : Nat → Act)
    (hassign : ∀ (l k : Nat) (W : World) (K : Act → World → Prop), K (a₁ k) W →
      assign.wpIn (F.inRound l) (n - 1 - 1) P (Exit.then K (fun _ _ _ => False)) { tmps := (ps.zip (encs k)).foldl (fun t (p, v) => t.setIfInBounds p v) a.tmps, defers := [] } W)
    (hbody : ∀ (l k : Nat) (W : World), I k W → k < N → body.wpIn (F.inRound l) (n - 1 - 1) P (goesOn w.heap.size I k W) (a₁ k) W)
    (hdone : ∀ (D : Nat) (W : World), w.heap.size ≤ D → I N W → W.heap[D]? = some (.deferred (some [])) → Q .normal { a with defers := { target := .collected D, args := #[] } :: a.defers } W) :
    (Code.rangeFunc g ps assign body).wpIn F n P Q a w := by
  refine wpIn_rangeFunc fun fn hfn => ?_
  rw [hro]
  let rd : Loop := { state := .ready, pending := none, fn, tmps := a.tmps, params := ps, assign, body, defers := w.heap.size }
  let bz : Loop := { rd with state := .busy }
  obtain ⟨W1, hW1⟩ : ∃ W1, (w.alloc (.deferred (some []))).alloc (.loop rd) = W1 := ⟨_, rfl⟩
  have hsz : W1.heap.size = w.heap.size + 2 := by rw [← hW1]; simp
  have hL1 : W1.heap[w.heap.size + 1]? = some (.loop rd) := by
    rw [← hW1]
    have := World.alloc_heap_new (w.alloc (.deferred (some []))) (.loop rd)
    rwa [World.size_alloc] at this
  have hK1 : W1.heap[w.heap.size]? = some (.deferred (some [])) := by
    rw [← hW1]
    exact (Below.heap_alloc _ _ _ (by simp)).trans (World.alloc_heap_new w _)
  have hI1 : I 0 W1 := hW1 ▸ hI.alloc _ (hI.alloc _ h0)
  have hb1 : Below w0.heap.size w0 W1 := by
    rw [← hW1]
    exact hb0.trans ((((Below.refl _ w).alloc (Nat.le_refl _) _).alloc (by simp) _).mono hb0.size)
  refine ⟨w.heap.size + 1, [{ target := .collected w.heap.size, args := #[] }], W1, { target := .fn (.func gf) lb, args := #[.func (.yield (w.heap.size + 1)) #[] #[]] }, W1, gf, #[.func (.yield (w.heap.size + 1)) #[] #[]] ++ lb, W1, ?_, ?_, ?_, ?_, fun _ => h1, ?_⟩
  · rw [← hW1]
    exact run_enterLoop_outer _ _ _ _ _
  · simp only [resolve, hg]
    simp [go_sem]
  · intro f' hf'
    simp [Target.leads] at hf'
    exact hf' ▸ hFg
  · simp [invoke, go_sem, eg]
  · refine (hseq (w.heap.size + 1) (fun k W => I k W ∧ W.heap[w.heap.size + 1]? = some (.loop rd) ∧ W.heap[w.heap.size]? = some (.deferred (some []))) W1 hb1 (fun k W h => h.1) ?_ ⟨hI1, hL1, hK1⟩).mono ?_
    · rintro k W ⟨hi, hl, hd⟩ hk
      have hlt : w.heap.size + 1 < W.heap.size := (Array.getElem?_eq_some_iff.1 hl).1
      refine ⟨fn, _, assign, body, run_yield (P := P) (args := encs k) hl (hps k), roundIn_of_wpIn hfn (hassign _ k W _ ⟨_, run_beginRound hl rfl, ?_⟩)⟩
      have hl2 : (W.putObj (w.heap.size + 1) (.loop bz)).heap[w.heap.size + 1]? = some (.loop bz) := World.putObj_heap_same hlt
      have hd2 : (W.putObj (w.heap.size + 1) (.loop bz)).heap[w.heap.size]? = some (.deferred (some [])) := (World.putObj_heap_other (by omega)).trans hd
      refine wpIn_mono (hbody _ k _ (hI.putObj _ hi (by omega) hl rfl) hk) ?_
      rintro e a3 W3 hp
      cases e with
      | normal =>
        obtain ⟨hk3, hi3⟩ := hp
        have hl3 := hk3.same _ _ (by omega) hl2 rfl
        have hd3 := hk3.same _ _ (Nat.le_refl _) hd2 rfl
        exact ⟨_, _, run_endRound (P := P) none hl3, rfl, hI.putObj _ hi3 (by omega) hl3 rfl, World.putObj_heap_same (Array.getElem?_eq_some_iff.1 hl3).1, (World.putObj_heap_other (by omega)).trans hd3⟩
      | _ => exact hp.elim
    · rintro e W2 ⟨⟨v, rfl⟩, hi, hl, hd⟩
      exact ⟨none, _, run_endLoop (P := P) hl (by simp [rd]), hdone _ _ (Nat.le_refl _) (hI.putObj _ hi (by omega) hl rfl) ((World.putObj_heap_other (by omega)).trans hd)⟩
end Go.Proofs.Ytjccaojlldkmpaa.Rg
/- What can be reached: plain lists of addresses. -/
namespace Go.Proofs.Ytjccaojlldkmpaa.Mem
open Go.RowKit
open Hf (rightB hdr headOf partsOf)
set_option linter.unusedSimpArgs false
set_option linter.unusedVariables false
/-- The tagged fields of the object at an address. -/
def tg (f : Int) (os : List O) (a : Int) : List Int := match os[(heads f os).idxOf a]? with
  | some o => o.fs.take o.tag.toNat
  | none => []
/-- One word more. -/
def add1 (f : Int) (os : List O) (l : List Int) (x : Int) : Option (List Int) :=
  if x % 2 = 1 then some l else if x / 2 ∈ heads f os then (if x / 2 ∈ l then some l else some (l ++ [x / 2])) else none
/-- Some words more: how far it went, and whether all were good. -/
def addP (f : Int) (os : List O) : List Int → List Int → List Int × Bool
  | l, [] => (l, true)
  | l, x :: xs => match add1 f os l x with
    | some l' => addP f os l' xs
    | none => (l, false)
theorem addP_yes {f : Int} {os : List O} {l l' xs : List Int} {x : Int} (e : add1 f os l x = some l') : addP f os l (x :: xs) = addP f os l' xs := by simp only [addP, e]
theorem addP_no {f : Int} {os : List O} {l xs : List Int} {x : Int} (e : add1 f os l x = none) : addP f os l (x :: xs) = (l, false) := by simp only [addP, e]
theorem addP_append (f : Int) (os : List O) (xs ys : List Int) : ∀ l, addP f os l (xs ++ ys) = if (addP f os l xs).2 then addP f os (addP f os l xs).1 ys else addP f os l xs := by
  induction xs with
  | nil => intro l; simp [addP]
  | cons x xs ih =>
    intro l
    rw [List.cons_append]
    cases e : add1 f os l x with
    | none => rw [addP_no e, addP_no e]; rfl
    | some l' => rw [addP_yes e, addP_yes e]; exact ih l'
theorem addP_snoc (f : Int) (os : List O) (l xs : List Int) (x : Int) (h : (addP f os l xs).2 = true) :
    addP f os l (xs ++ [x]) = ((add1 f os (addP f os l xs).1 x).getD (addP f os l xs).1, (add1 f os (addP f os l xs).1 x).isSome) := by
  rw [addP_append, if_pos h]
  simp only [addP]
  cases add1 f os (addP f os l xs).1 x <;> rfl
theorem addP_stop (f : Int) (os : List O) (l xs ys : List Int) (h : (addP f os l xs).2 = false) : addP f os l (xs ++ ys) = addP f os l xs := by
  rw [addP_append, h]; rfl
/-- From an object on. -/
def goP (f : Int) (os : List O) : Nat → Nat → List Int → List Int × Bool
  | 0, _, l => (l, true)
  | n + 1, i, l => match l[i]? with
    | none => (l, true)
    | some a => if (addP f os l (tg f os a)).2 then goP f os n (i + 1) (addP f os l (tg f os a)).1 else addP f os l (tg f os a)
/-- What can be reached. -/
def walkP (f : Int) (os : List O) (roots : List Int) : List Int × Bool :=
  if (addP f os [] roots).2 then goP f os (os.length + 1) 0 (addP f os [] roots).1 else addP f os [] roots
theorem heads_nodup (f : Int) (os : List O) : (heads f os).Nodup := by
  unfold heads
  rw [List.Nodup, List.pairwise_map]
  refine List.Pairwise.imp_of_mem ?_ List.pairwise_lt_range
  intro i j hi hj hij
  have := pos_lt os i j hij (Nat.le_of_lt (List.mem_range.1 hj))
  omega
theorem mem_heads {f : Int} {os : List O} {a : Int} : a ∈ heads f os ↔ ∃ i, i < os.length ∧ a = f + (pos os i : Int) := by
  unfold heads
  rw [List.mem_map]
  constructor
  · rintro ⟨i, hi, rfl⟩; exact ⟨i, List.mem_range.1 hi, rfl⟩
  · rintro ⟨i, hi, rfl⟩; exact ⟨i, List.mem_range.2 hi, rfl⟩
theorem heads_idx (f : Int) (os : List O) (i : Nat) (h : i < os.length) : (heads f os).idxOf (f + (pos os i : Int)) = i := by
  have hl : i < (heads f os).length := by rw [heads_length]; exact h
  have hg := heads_get f os i h
  rw [List.getElem?_eq_getElem hl] at hg
  have := (heads_nodup f os).idxOf_getElem i hl
  rw [Option.some.inj hg] at this
  exact this
theorem tg_at (f : Int) (os : List O) (i : Nat) (h : i < os.length) : tg f os (f + (pos os i : Int)) = os[i].fs.take os[i].tag.toNat := by
  unfold tg
  rw [heads_idx f os i h, List.getElem?_eq_getElem h]
theorem no_head {f : Int} {os : List O} {a : Int} (h : a ∉ heads f os) : NoHead f os a := fun i hi e => h (mem_heads.2 ⟨i, hi, e.symm⟩)
/-- A list of different objects. -/
structure Ord (f : Int) (os : List O) (l : List Int) : Prop where
  nd : l.Nodup
  sub : ∀ a ∈ l, a ∈ heads f os
theorem Ord.nil (f : Int) (os : List O) : Ord f os [] := ⟨List.nodup_nil, fun a h => absurd h (by simp)⟩
theorem Ord.len {f : Int} {os : List O} {l : List Int} (h : Ord f os l) : l.length ≤ os.length := by
  have := h.nd.length_le_of_subset (fun a ha => h.sub a ha)
  rwa [heads_length] at this
theorem Ord.add1 {f : Int} {os : List O} {l l' : List Int} {x : Int} (h : Ord f os l) (e : add1 f os l x = some l') : Ord f os l' ∧ l <+: l' := by
  unfold Mem.add1 at e
  by_cases h1 : x % 2 = 1
  · rw [if_pos h1] at e; cases e; exact ⟨h, List.prefix_refl _⟩
  · rw [if_neg h1] at e
    by_cases h2 : x / 2 ∈ heads f os
    · rw [if_pos h2] at e
      by_cases h3 : x / 2 ∈ l
      · rw [if_pos h3] at e; cases e; exact ⟨h, List.prefix_refl _⟩
      · rw [if_neg h3] at e
        cases e
        refine ⟨⟨?_, ?_⟩, List.prefix_append _ _⟩
        · rw [List.nodup_append]
          refine ⟨h.nd, by simp, ?_⟩
          intro a ha b hb e
          rw [List.mem_singleton] at hb
          exact h3 (hb ▸ e ▸ ha)
        · intro a ha
          rw [List.mem_append, List.mem_singleton] at ha
          rcases ha with ha | rfl
          · exact h.sub a ha
          · exact h2
    · rw [if_neg h2] at e; cases e
theorem Ord.addP {f : Int} {os : List O} (xs : List Int) : ∀ {l : List Int}, Ord f os l → Ord f os (addP f os l xs).1 ∧ l <+: (addP f os l xs).1 := by
  induction xs with
  | nil => intro l h; exact ⟨h, List.prefix_refl _⟩
  | cons x xs ih =>
    intro l h
    simp only [Mem.addP]
    cases e : Mem.add1 f os l x with
    | none => exact ⟨h, List.prefix_refl _⟩
    | some l' =>
      obtain ⟨h1, h2⟩ := h.add1 e
      obtain ⟨h3, h4⟩ := ih h1
      exact ⟨h3, h2.trans h4⟩
theorem Ord.goP {f : Int} {os : List O} (n : Nat) : ∀ (i : Nat) {l : List Int}, Ord f os l → Ord f os (goP f os n i l).1 ∧ l <+: (goP f os n i l).1 := by
  induction n with
  | zero => intro i l h; exact ⟨h, List.prefix_refl _⟩
  | succ n ih =>
    intro i l h
    simp only [Mem.goP]
    cases l[i]? with
    | none => exact ⟨h, List.prefix_refl _⟩
    | some a =>
      obtain ⟨h1, h2⟩ := h.addP (tg f os a)
      by_cases h3 : (Mem.addP f os l (tg f os a)).2 = true
      · simp only [h3, if_true]
        obtain ⟨h4, h5⟩ := ih (i + 1) h1
        exact ⟨h4, h2.trans h5⟩
      · simp only [h3]
        exact ⟨h1, h2⟩
theorem Ord.walkP (f : Int) (os : List O) (roots : List Int) : Ord f os (walkP f os roots).1 := by
  obtain ⟨h1, -⟩ := (Ord.nil f os).addP roots
  unfold Mem.walkP
  split
  · exact ((h1.goP (os.length + 1) 0)).1
  · exact h1
end Go.Proofs.Ytjccaojlldkmpaa.Mem
/- A collection, plain: the order, step by step; the objects on their way. -/
namespace Go.Proofs.Ytjccaojlldkmpaa.Mem
open Go.RowKit
open Hf (rightB hdr headOf partsOf)
set_option linter.unusedSimpArgs false
set_option linter.unusedVariables false
/-- The order behind k objects. -/
def it (f : Int) (os : List O) (l0 : List Int) : Nat → List Int
  | 0 => l0
  | k + 1 => (addP f os (it f os l0 k) (tg f os ((it f os l0 k).getD k 0))).1
variable {f : Int} {os : List O} {l0 : List Int}
theorem it_succ (k : Nat) : it f os l0 (k + 1) = (addP f os (it f os l0 k) (tg f os ((it f os l0 k).getD k 0))).1 := rfl
theorem it_ord (h : Ord f os l0) : ∀ k, Ord f os (it f os l0 k)
  | 0 => h
  | k + 1 => ((it_ord h k).addP _).1
theorem it_step (h : Ord f os l0) (k : Nat) : it f os l0 k <+: it f os l0 (k + 1) := ((it_ord h k).addP _).2
theorem it_pre (h : Ord f os l0) (k d : Nat) : it f os l0 k <+: it f os l0 (k + d) := by
  induction d with
  | zero => exact List.prefix_refl _
  | succ d ih => exact ih.trans (it_step h (k + d))
theorem it_run (h : Ord f os l0) {L : List Int} (n : Nat) : ∀ i, goP f os n i (it f os l0 i) = (L, true) → i ≤ (it f os l0 i).length → n + i = os.length + 1 →
    i ≤ L.length ∧ (∀ k, i ≤ k → k < L.length → k < (it f os l0 k).length ∧ (addP f os (it f os l0 k) (tg f os ((it f os l0 k).getD k 0))).2 = true) ∧ it f os l0 L.length = L := by
  induction n with
  | zero =>
    intro i _ h2 h3
    have := (it_ord h i).len
    omega
  | succ n ih =>
    intro i h1 h2 h3
    by_cases hi : i < (it f os l0 i).length
    · have e : (it f os l0 i)[i] = (it f os l0 i).getD i 0 := by simp [List.getD, hi]
      rw [goP, List.getElem?_eq_getElem hi] at h1
      simp only [e] at h1
      by_cases h4 : (addP f os (it f os l0 i) (tg f os ((it f os l0 i).getD i 0))).2 = true
      · rw [if_pos h4] at h1
        have hl := (it_step h i).length_le
        obtain ⟨p1, p2, p3⟩ := ih (i + 1) h1 (by omega) (by omega)
        refine ⟨by omega, fun k hk hkL => ?_, p3⟩
        by_cases hki : k = i
        · subst hki; exact ⟨hi, h4⟩
        · exact p2 k (by omega) hkL
      · rw [if_neg h4] at h1
        rw [h1] at h4
        exact absurd rfl h4
    · rw [goP, List.getElem?_eq_none (by omega)] at h1
      have e : it f os l0 i = L := congrArg Prod.fst h1
      have hiL : i = L.length := by rw [← e]; omega
      refine ⟨by omega, fun k hk hkL => by omega, by rw [← hiL]; exact e⟩
/-- All of a walk that went well. -/
theorem walk_run {xs L : List Int} (h : walkP f os xs = (L, true)) : (addP f os [] xs).2 = true ∧ Ord f os (addP f os [] xs).1 ∧
    (∀ k, k < L.length → k < (it f os (addP f os [] xs).1 k).length ∧ (addP f os (it f os (addP f os [] xs).1 k) (tg f os ((it f os (addP f os [] xs).1 k).getD k 0))).2 = true) ∧ it f os (addP f os [] xs).1 L.length = L := by
  have ho := ((Ord.nil f os).addP xs).1
  unfold walkP at h
  by_cases h2 : (addP f os [] xs).2 = true
  · rw [if_pos h2] at h
    obtain ⟨p1, p2, p3⟩ := it_run ho (os.length + 1) 0 h (Nat.zero_le _) (by omega)
    exact ⟨h2, ho, fun k hk => p2 k (Nat.zero_le _) hk, p3⟩
  · rw [if_neg h2] at h
    rw [h] at h2
    exact absurd rfl h2
/-- The object at an address. -/
def obAt (f : Int) (os : List O) (a : Int) : O := os.getD ((heads f os).idxOf a) ⟨0, 0, []⟩
theorem obAt_at (f : Int) (os : List O) (i : Nat) (h : i < os.length) : obAt f os (f + (pos os i : Int)) = os[i] := by
  unfold obAt
  rw [heads_idx f os i h]
  simp [List.getD, h]
theorem tg_obAt (f : Int) (os : List O) (a : Int) (h : a ∈ heads f os) : tg f os a = (obAt f os a).fs.take (obAt f os a).tag.toNat := by
  obtain ⟨i, hi, rfl⟩ := mem_heads.1 h
  rw [tg_at f os i hi, obAt_at f os i hi]
/-- A word behind the collection. -/
def cw (f1 f : Int) (os : List O) (L : List Int) (x : Int) : Int := if x % 2 = 1 then x else 2 * (f1 + (pos (L.map (obAt f os)) (L.idxOf (x / 2)) : Int))
/-- An object whose first q fields are turned. -/
def mapO (c : Int → Int) (q : Nat) (o : O) : O := ⟨o.kind, o.tag, (o.fs.take q).map c ++ o.fs.drop q⟩
theorem mapO_len (c : Int → Int) (q : Nat) (o : O) : (mapO c q o).fs.length = o.fs.length := by
  simp only [mapO, List.length_append, List.length_map, List.length_take, List.length_drop]
  omega
theorem mapO_zero (c : Int → Int) (o : O) : mapO c 0 o = o := by
  cases o
  simp [mapO]
/-- The objects on their way: those ahead of k are turned, of the k-th j fields. -/
def stg (c : Int → Int) (f : Int) (os : List O) (l : List Int) (k j : Nat) : List O := l.mapIdx fun p a => mapO c (if p < k then (obAt f os a).tag.toNat else if p = k then j else 0) (obAt f os a)
theorem stg_length (c : Int → Int) (f : Int) (os : List O) (l : List Int) (k j : Nat) : (stg c f os l k j).length = l.length := by simp [stg]
theorem stg_get (c : Int → Int) (f : Int) (os : List O) (l : List Int) (k j p : Nat) (h : p < (stg c f os l k j).length) (h' : p < l.length) :
    (stg c f os l k j)[p] = mapO c (if p < k then (obAt f os l[p]).tag.toNat else if p = k then j else 0) (obAt f os l[p]) := by simp [stg]
theorem stg_lens (c : Int → Int) (f : Int) (os : List O) (l : List Int) (k j : Nat) : (stg c f os l k j).map (fun o => o.fs.length) = (l.map (obAt f os)).map (fun o => o.fs.length) := by
  apply List.ext_getElem
  · simp [stg]
  · intro p h1 h2
    simp only [List.getElem_map]
    rw [stg_get c f os l k j p (by simpa using h1) (by simpa using h2), mapO_len]
theorem stg_pos (c : Int → Int) (f : Int) (os : List O) (l : List Int) (k j p : Nat) : pos (stg c f os l k j) p = pos (l.map (obAt f os)) p := pos_lens (stg_lens c f os l k j) p
theorem stg_flat (c : Int → Int) (f : Int) (os : List O) (l : List Int) (k j : Nat) : (flat (stg c f os l k j)).length = (flat (l.map (obAt f os))).length := by
  rw [flat_len, flat_len, stg_lens]
theorem pos_map_pre {l L : List Int} (g : Int → O) (h : l <+: L) (p : Nat) (hp : p ≤ l.length) : pos (L.map g) p = pos (l.map g) p := by
  obtain ⟨t, rfl⟩ := h
  unfold pos
  rw [List.map_append, List.take_append_of_le_length (by simpa using hp)]
theorem stg_snoc (c : Int → Int) (f : Int) (os : List O) (l : List Int) (k j : Nat) (a : Int) (h : k < l.length ∨ j = 0 ∧ k ≤ l.length) : stg c f os (l ++ [a]) k j = stg c f os l k j ++ [obAt f os a] := by
  unfold stg
  rw [List.mapIdx_append]
  simp only [List.mapIdx_cons, List.mapIdx_nil, Nat.zero_add]
  congr 1
  rw [if_neg (by omega)]
  by_cases e : l.length = k
  · rw [if_pos e]
    have : j = 0 := by omega
    rw [this, mapO_zero]
  · rw [if_neg e, mapO_zero]
theorem mapO_put (c : Int → Int) (j : Nat) (o : O) (hj : j < o.fs.length) : (mapO c j o).put j (c (o.fs.getD j 0)) = mapO c (j + 1) o := by
  have e : o.fs.getD j 0 = o.fs[j] := by simp [List.getD, hj]
  unfold mapO O.put
  congr 1
  rw [e, List.set_append, if_neg (by rw [List.length_map, List.length_take]; omega), List.drop_eq_getElem_cons hj, show j - (List.map c (List.take j o.fs)).length = 0 by simp; omega, List.set_cons_zero, List.take_succ_eq_append_getElem hj, List.map_append, List.append_assoc]
  rfl
theorem mapO_rest (c : Int → Int) (j : Nat) (o : O) (hj : j < o.fs.length) : (mapO c j o).fs.getD j 0 = o.fs.getD j 0 := by
  simp only [mapO, List.getD]
  rw [List.getElem?_append_right (by rw [List.length_map, List.length_take]; omega), List.getElem?_drop]
  congr 2
  simp
  omega
/-- One field more. -/
theorem stg_put (c : Int → Int) (f : Int) (os : List O) (l : List Int) (k j : Nat) (hk : k < l.length) (hj : j < (obAt f os l[k]).fs.length) :
    putO (stg c f os l k j) k j (c ((obAt f os l[k]).fs.getD j 0)) = stg c f os l k (j + 1) := by
  apply List.ext_getElem
  · rw [putO_length, stg_length, stg_length]
  · intro p h1 h2
    have hp : p < (stg c f os l k j).length := by rw [putO_length] at h1; exact h1
    have hpl : p < l.length := by rw [stg_length] at hp; exact hp
    rw [putO_get _ _ _ _ _ h1 hp, stg_get c f os l k (j + 1) p h2 hpl, stg_get c f os l k j p hp hpl]
    by_cases e : k = p
    · subst e
      rw [if_pos rfl, if_neg (by omega), if_pos rfl, if_neg (by omega), if_pos rfl, mapO_put c j _ hj]
    · rw [if_neg e]
      by_cases e2 : p < k
      · rw [if_pos e2, if_pos e2]
      · rw [if_neg e2, if_neg (by omega), if_neg e2, if_neg (by omega)]
/-- An object is done. -/
theorem stg_done (c : Int → Int) (f : Int) (os : List O) (l : List Int) (k : Nat) (hk : k < l.length) : stg c f os l k (obAt f os l[k]).tag.toNat = stg c f os l (k + 1) 0 := by
  apply List.ext_getElem
  · rw [stg_length, stg_length]
  · intro p h1 h2
    have hpl : p < l.length := by rw [stg_length] at h1; exact h1
    rw [stg_get _ _ _ _ _ _ _ h1 hpl, stg_get _ _ _ _ _ _ _ h2 hpl]
    by_cases e : p = k
    · subst e
      rw [if_neg (by omega), if_pos rfl, if_pos (by omega)]
    · by_cases e2 : p < k
      · rw [if_pos e2, if_pos (by omega)]
      · rw [if_neg e2, if_neg e, if_neg (by omega)]
        by_cases e3 : p = k + 1
        · rw [if_pos e3]
        · rw [if_neg e3]
theorem addP_part (l xs : List Int) (k : Nat) (h : (addP f os l xs).2 = true) : (addP f os l (xs.take k)).2 = true := by
  cases e : (addP f os l (xs.take k)).2 with
  | true => rfl
  | false =>
    have h2 := addP_stop f os l (xs.take k) (xs.drop k) e
    rw [List.take_append_drop] at h2
    rw [h2, e] at h
    cases h
theorem addP_pre (l xs : List Int) (k : Nat) (hl : Ord f os l) (h : (addP f os l xs).2 = true) : (addP f os l (xs.take k)).1 <+: (addP f os l xs).1 := by
  have h1 := addP_part l xs k h
  have h2 := addP_append f os (xs.take k) (xs.drop k) l
  rw [List.take_append_drop, if_pos h1] at h2
  rw [h2]
  exact ((hl.addP (xs.take k)).1.addP (xs.drop k)).2
theorem addP_round (l xs : List Int) (k : Nat) (hk : k < xs.length) (h : (addP f os l xs).2 = true) : add1 f os (addP f os l (xs.take k)).1 xs[k] = some (addP f os l (xs.take (k + 1))).1 := by
  have h1 := addP_part l xs k h
  have h2 := addP_part l xs (k + 1) h
  have e : xs.take (k + 1) = xs.take k ++ [xs[k]] := List.take_succ_eq_append_getElem hk
  have h3 := addP_snoc f os l (xs.take k) xs[k] h1
  rw [← e] at h3
  rw [h3] at h2 ⊢
  cases e2 : add1 f os (addP f os l (xs.take k)).1 xs[k] with
  | some l2 => rfl
  | none => rw [e2] at h2; cases h2
theorem addP_pre2 (l xs : List Int) (k : Nat) (hl : Ord f os l) (h : (addP f os l xs).2 = true) : (addP f os l (xs.take k)).1 <+: (addP f os l (xs.take (k + 1))).1 := by
  have h1 := addP_part l xs (k + 1) h
  have h2 := addP_pre l (xs.take (k + 1)) k hl h1
  rw [List.take_take, Nat.min_eq_left (Nat.le_succ k)] at h2
  exact h2
theorem stg_ext (c : Int → Int) {l l2 : List Int} (h : l <+: l2) (k j : Nat) (hk : k < l.length) : stg c f os l k j ++ (l2.drop l.length).map (obAt f os) = stg c f os l2 k j := by
  obtain ⟨t, rfl⟩ := h
  rw [List.drop_left]
  unfold stg
  rw [List.mapIdx_append]
  congr 1
  apply List.ext_getElem
  · simp
  · intro p h1 h2
    simp only [List.getElem_map, List.getElem_mapIdx]
    rw [if_neg (by omega), if_neg (by omega), mapO_zero]
theorem stg_zero (c : Int → Int) (l : List Int) : stg c f os l 0 0 = l.map (obAt f os) := by
  apply List.ext_getElem
  · simp [stg]
  · intro p h1 h2
    have hp : p < l.length := by simpa using h2
    rw [stg_get _ _ _ _ _ _ _ h1 hp, if_neg (by omega), List.getElem_map]
    by_cases e : p = 0
    · rw [if_pos e, mapO_zero]
    · rw [if_neg e, mapO_zero]
theorem stg_full (c : Int → Int) (l : List Int) : stg c f os l l.length 0 = l.map (fun a => mapO c (obAt f os a).tag.toNat (obAt f os a)) := by
  apply List.ext_getElem
  · simp [stg]
  · intro p h1 h2
    have hp : p < l.length := by simpa using h2
    rw [stg_get _ _ _ _ _ _ _ h1 hp, if_pos hp, List.getElem_map]
theorem stg_at (c : Int → Int) (l : List Int) (k j : Nat) (hk : k < l.length) (h : k < (stg c f os l k j).length) : (stg c f os l k j)[k] = mapO c j (obAt f os l[k]) := by
  rw [stg_get _ _ _ _ _ _ _ h hk, if_neg (by omega), if_pos rfl]
end Go.Proofs.Ytjccaojlldkmpaa.Mem
/- gc.walk: the closure that takes a word. -/
namespace Go.Proofs.Ytjccaojlldkmpaa.Mem
open Go.RowKit Go.Proofs.YtjccaojlldkmpaaW.PrintWords Go.Proofs.YtjccaojlldkmpaaW.PrintLast Go.Proofs.YtjccaojlldkmpaaW.PrintMore
open Hf (rightB hdr headOf partsOf)
set_option linter.unusedSimpArgs false
set_option linter.unusedVariables false
set_option maxRecDepth 100000
variable {S : Nat → Prop} {w W w' : World} {g n : Nat} {st : St}
theorem isInt_f {x : Int} (h : 0 ≤ x ∧ x < 18446744073709551616) : Pa.num_IsInt.f x = some (x % 2 == 1) := by
  unfold Pa.num_IsInt.f
  rw [Hf.and_mask 1 1 rfl (by decide) x h.1 h.2]
  rfl
/-- The address of a word. -/
def toP (x : Int) : Int := if x % 2 = 0 ∧ 2 ≤ x ∧ x ≤ 2199023255552 then x / 2 else 0
theorem toP_f {x : Int} (h : 0 ≤ x ∧ x < 18446744073709551616) : Pa.num_ToPtr.f x = some (toP x) := by
  have hP : Pa.num_IsPtr.f x = some (decide (x % 2 = 0 ∧ 2 ≤ x ∧ x ≤ 2199023255552)) := by
    unfold Pa.num_IsPtr.f
    rw [Hf.and_mask 1 1 rfl (by decide) x h.1 h.2]
    by_cases h1 : x % 2 = 0
    · rw [if_pos (show x % ((2 ^ 1 : Nat) : Int) = 0 from h1)]
      by_cases h2 : x ≥ 2
      · rw [if_pos h2]
        congr 1
        apply decide_eq_decide.2
        omega
      · rw [if_neg h2]
        congr 1
        symm
        apply decide_eq_false
        omega
    · rw [if_neg (show ¬ x % ((2 ^ 1 : Nat) : Int) = 0 from h1)]
      congr 1
      symm
      apply decide_eq_false
      omega
  unfold Pa.num_ToPtr.f toP
  rw [hP, Option.bind_some]
  by_cases h1 : x % 2 = 0 ∧ 2 ≤ x ∧ x ≤ 2199023255552
  · rw [if_pos h1, if_pos (decide_eq_true h1)]
    congr 1
    unfold wrap64
    omega
  · rw [if_neg h1, if_neg (by rw [decide_eq_false h1]; decide)]
theorem IsMem.fbound (M : IsMem S w g st) : 1 ≤ st.f ∧ st.f ≤ 200000 ∧ (flat st.os).length ≤ 65536 := by
  obtain ⟨vw, vh, ow, oh, mb, n, L⟩ := M
  have h1 := L.sz
  refine ⟨?_, L.H.hf.2, L.H.hl⟩
  unfold St.f
  rcases L.hf with h | h <;> rw [h] <;> omega
theorem IsMem.below (M : IsMem S w g st) (hb : Below w.heap.size w w') : IsMem S w' g st :=
  ((M.bound).keep (T := fun k => w.heap.size ≤ k) ⟨hb.mono (Nat.zero_le _), fun k hk _ => hb.block k hk⟩ (fun k h h2 => by omega)) |> fun M => by
    obtain ⟨vw, vh, ow, oh, mb, n, L⟩ := M
    exact ⟨vw, vh, ow, oh, mb, n, L.more (fun k h => h.1)⟩
theorem IsMem.head_range (M : IsMem S w g st) {a : Int} (h : a ∈ heads st.f st.os) : 1 ≤ a ∧ a ≤ 300000 := by
  obtain ⟨h1, h2, h3⟩ := M.fbound
  obtain ⟨i, hi, rfl⟩ := mem_heads.1 h
  have := pos_head st.os i hi
  omega
theorem IsMem.os_len (M : IsMem S w g st) : st.os.length ≤ 65536 := by
  have := M.fbound
  have := len_le st.os
  omega
theorem toP_head (M : IsMem S w g st) {x : Int} (h0 : ¬ x % 2 = 1) (h : x / 2 ∈ heads st.f st.os) : toP x = x / 2 := by
  have := M.head_range h
  unfold toP
  rw [if_pos (by omega)]
theorem toP_no (M : IsMem S w g st) {x : Int} (h0 : ¬ x % 2 = 1) (h : x / 2 ∉ heads st.f st.os) : NoHead st.f st.os (toP x) := by
  apply no_head
  intro h2
  unfold toP at h2
  by_cases h1 : x % 2 = 0 ∧ 2 ≤ x ∧ x ≤ 2199023255552
  · rw [if_pos h1] at h2
    exact h h2
  · rw [if_neg h1] at h2
    have := M.head_range h2
    omega
theorem toP_range (x : Int) : 0 ≤ toP x ∧ toP x ≤ 1099511627776 := by
  unfold toP
  split <;> omega
theorem IsMem.look_no (M : IsMem S w g st) (a : Int) (ha : -9223372036854775808 ≤ a ∧ a ≤ 9223372036854775807) (hn : NoHead st.f st.os a) :
    Calls Try.prog 34 #[.pointer (some ⟨g, 0, none⟩), .int .i64 a] w fun e w' => e = .returned (.tuple #[.int .i64 0, .int .i64 0, .int .i64 0, .int .i64 20]) ∧ Drawn0 w w' := by
  obtain ⟨vw, vh, ow, oh, mb, m, L⟩ := M
  exact Mem.look_no L.H a ha hn
/-- The walk's cells: the memory, the map of what was seen, the order. -/
structure Wk (w W : World) (g bm bs bo : Nat) (f : Int) (os : List O) (l : List Int) : Prop where
  hb : Below w.heap.size w W
  m : W.heap[bm]? = some (.cells #[.pointer (some ⟨g, 0, none⟩)] 26 (0, 0))
  s : ∃ mb, W.heap[bs]? = some (.cells #[.map (some mb)] 94 (0, 0)) ∧ w.heap.size ≤ mb ∧ ∃ n D, W.ownsMap Try.prog 3 (plainElem Try.prog 3) mb n D ∧ n ≤ l.length ∧ Maps.IsMap (D : DataW Unit) ∧
    ∀ a : Int, D.atKey (.int .i64 a) (.lit (.int .i64 0)) = .lit (.int .i64 (if a ∈ l then 1 else 0))
  o : ∃ A c, W.heap[bo]? = some (.cells #[.slice A l.length c] 23 (0, 0)) ∧ (Kd.int .i64).R 3 W w.heap.size (fun _ => True) (.slice A l.length c) l
  g1 : w.heap.size ≤ bm
  g2 : w.heap.size ≤ bs
  g3 : w.heap.size ≤ bo
  ord : Ord f os l
theorem R_far_lt {v : Value} {xs : List Int} {b : Nat} {T : Nat → Prop} (h : (Kd.int .i64).R 3 w b (fun _ => True) v xs) (fr : Fr T w w') (hn : ∀ k, v.ownBlock = some k → ¬ T k) : (Kd.int .i64).R 3 w' b (fun _ => True) v xs :=
  Kd.R_mono (Kd.R_step (Kd.R_tight rfl h) (fun k hk hl => fr.same k hl (hn k hk.symm))) (fun _ _ => trivial)
theorem Wk.drawn {bm bs bo : Nat} {f : Int} {os : List O} {l : List Int} (K : Wk w W g bm bs bo f os l) (hd : Drawn0 W w') : Wk w w' g bm bs bo f os l := by
  have fr := Fr.of_drawn (S := fun _ => False) hd
  obtain ⟨mb, h1, h2, n, D, h3, h4, h5, h6⟩ := K.s
  obtain ⟨A, c, o1, o2⟩ := K.o
  exact ⟨below_step K.hb hd.below, (fr.same _ (blk_lt K.m) (fun h => h)).trans K.m, ⟨mb, (fr.same _ (blk_lt h1) (fun h => h)).trans h1, h2, n, D, keepMap h3 (fr.same _ h3.lt (fun h => h)), h4, h5, h6⟩,
    ⟨A, c, (fr.same _ (blk_lt o1) (fun h => h)).trans o1, R_far_lt o2 fr (fun _ _ h => h)⟩, K.g1, K.g2, K.g3, K.ord⟩
theorem wf_i64' {n : Int} (h : -9223372036854775808 ≤ n ∧ n ≤ 9223372036854775807) : (Lit.int .i64 n).wf = true := wf_i64 h
/-- What a new object does to the cells. -/
theorem Wk.push {bm bs bo mb n : Nat} {f : Int} {os : List O} {l : List Int} {a : Int} {w4 w5 : World} {D : DataW Unit} {A v : Value} (K : Wk w W g bm bs bo f os l)
    (h1 : W.heap[bs]? = some (.cells #[.map (some mb)] 94 (0, 0))) (h2 : w.heap.size ≤ mb) (h3 : W.ownsMap Try.prog 3 (plainElem Try.prog 3) mb n D) (h4 : n ≤ l.length) (h5 : Maps.IsMap (D : DataW Unit))
    (h6 : ∀ a : Int, D.atKey (.int .i64 a) (.lit (.int .i64 0)) = .lit (.int .i64 (if a ∈ l then 1 else 0))) (hl : a ∉ l) (ha : a ∈ heads f os) (o1 : W.heap[bo]? = some (.cells #[A] 23 (0, 0))) (o2 : (Kd.int .i64).R 3 W w.heap.size (fun _ => True) A l)
    (hown : w4.ownsMap Try.prog 3 (plainElem Try.prog 3) mb (n + 1) (D.put (.int .i64 a) (.lit (.int .i64 1)))) (hg4 : W.grownBy w4 (some mb))
    (hr : (Kd.int .i64).R 3 w5 w.heap.size (fun _ => True) v (l ++ [a])) (hg5 : w4.grownBy w5 A.ownBlock) :
    Wk w (w5.setCell ⟨bo, 0, none⟩ v) g bm bs bo f os (l ++ [a]) := by
  have fr4 : Fr (fun k => k = mb) W w4 := Fr.of_grown hg4 (fun k e => by cases e; rfl)
  have fr5 : Fr (fun k => A.ownBlock = some k) w4 w5 := Fr.of_grown hg5 (fun k e => e)
  have tyA : ∀ k, A.ownBlock = some k → ∃ cs, W.heap[k]? = some (.cells cs 3 (0, 0)) := fun k hk => Kd.R_typed o2 k hk
  have nA : ∀ {k : Nat} {cs : Array Value} {t : TypeId}, W.heap[k]? = some (.cells cs t (0, 0)) → t ≠ 3 → ¬ A.ownBlock = some k := fun hk ht e => by
    obtain ⟨cs, h⟩ := tyA _ e
    rw [hk] at h
    cases h
    exact ht rfl
  have nm : ∀ {k : Nat} {cs : Array Value} {t : TypeId}, W.heap[k]? = some (.cells cs t (0, 0)) → k ≠ mb := fun hk e => map_ne h3 hk e.symm
  have mvd : ∀ {k : Nat} {cs : Array Value} {t : TypeId}, W.heap[k]? = some (.cells cs t (0, 0)) → t ≠ 3 → w5.heap[k]? = some (.cells cs t (0, 0)) := fun hk ht =>
    ((fr5.same _ (Nat.lt_of_lt_of_le (blk_lt hk) fr4.low.size) (nA hk ht)).trans (fr4.same _ (blk_lt hk) (nm hk))).trans hk
  have hb : Below w.heap.size w w5 := by
    refine ⟨?_, ?_, ?_, ?_, ?_⟩
    · exact fr5.low.os.trans (fr4.low.os.trans K.hb.os)
    · exact fr5.low.tape.trans (fr4.low.tape.trans K.hb.tape)
    · exact fr5.low.output.trans (fr4.low.output.trans K.hb.output)
    · exact Nat.le_trans K.hb.size (Nat.le_trans fr4.low.size fr5.low.size)
    · intro i hi
      have hiW := Nat.lt_of_lt_of_le hi K.hb.size
      refine ((fr5.same i (Nat.lt_of_lt_of_le hiW fr4.low.size) (fun e => ?_)).trans (fr4.same i hiW (by omega))).trans (K.hb.block i hi)
      have := Kd.R_base o2 i e
      omega
  have hmb5 : w5.ownsMap Try.prog 3 (plainElem Try.prog 3) mb (n + 1) (D.put (.int .i64 a) (.lit (.int .i64 1))) := keepMap hown (fr5.same _ hown.lt (fun e => by
    obtain ⟨cs, h⟩ := tyA _ e
    exact map_ne h3 h rfl))
  have o5 : w5.heap[bo]? = some (.cells #[A] 23 (0, 0)) := mvd o1 (by decide)
  have hnb : ∀ {k : Nat} {cs : Array Value} {t : TypeId}, w5.heap[k]? = some (.cells cs t (0, 0)) → t ≠ 23 → k ≠ bo := fun hk ht e => by
    subst e
    rw [o5] at hk
    cases hk
    exact ht rfl
  have hlen : l.length + 1 = (l ++ [a]).length := by simp
  obtain ⟨A', c', rfl⟩ := Kd.R_slice hr
  refine ⟨below_set hb K.g3, blk_far (mvd K.m (by decide)) (hnb (mvd K.m (by decide)) (by decide)) _, ⟨mb, blk_far (mvd h1 (by decide)) (hnb (mvd h1 (by decide)) (by decide)) _, h2, n + 1, _, keepMap hmb5 ?_, by rw [← hlen]; omega, ?_, ?_⟩, ⟨A', c', blk_put o5 0 _ rfl, ?_⟩, K.g1, K.g2, K.g3, ?_⟩
  · exact (Fr.of_set (S := fun k => k = bo) w5 ⟨bo, 0, none⟩ _ rfl).same mb hmb5.lt (fun e => map_ne hmb5 o5 e)
  · exact h5.put _ _
  · intro b
    by_cases e : b = a
    · subst e
      rw [Maps.atKey_put_same h5 (by first | exact trivial | exact .inl ⟨_, _, rfl⟩ | simp [WideAt.IsKeyLit]), if_pos (by simp)]
    · rw [Maps.atKey_put_other (by intro e2; injection e2 with _ e2; exact e e2), h6 b]
      congr 2
      simp [e]
  · exact R_far_lt hr (Fr.of_set (S := fun k => k = bo) w5 ⟨bo, 0, none⟩ _ rfl) (fun k hk => by
      obtain ⟨cs, h⟩ := Kd.R_typed hr k hk
      exact hnb h (by decide))
  · have := K.ord.add1 (x := 2 * a) (l' := l ++ [a])
    refine (this ?_).1
    unfold add1
    rw [if_neg (by omega), show 2 * a / 2 = a by omega, if_pos ha, if_neg hl]
theorem Wk.same {bm bs bo : Nat} {f : Int} {os : List O} {l : List Int} (K : Wk w W g bm bs bo f os l) (hb : Below W.heap.size W w') : Wk w w' g bm bs bo f os l := by
  have fr := Fr.of_below (S := fun _ => False) hb
  obtain ⟨mb, h1, h2, n, D, h3, h4, h5, h6⟩ := K.s
  obtain ⟨A, c, o1, o2⟩ := K.o
  exact ⟨below_step K.hb hb, (fr.same _ (blk_lt K.m) (fun h => h)).trans K.m, ⟨mb, (fr.same _ (blk_lt h1) (fun h => h)).trans h1, h2, n, D, keepMap h3 (fr.same _ h3.lt (fun h => h)), h4, h5, h6⟩,
    ⟨A, c, (fr.same _ (blk_lt o1) (fun h => h)).trans o1, R_far_lt o2 fr (fun _ _ h => h)⟩, K.g1, K.g2, K.g3, K.ord⟩
theorem info3' : (Try.prog.info? 3).map (fun i => (i.zero, i.size, i.bytes)) = some (some (.int .i64 0), 1, 8) := by kernel_rfl
set_option maxHeartbeats 8000000 in
theorem good_any (M : IsMem S w g st) {bm bs bo : Nat} {l : List Int} (K : Wk w W g bm bs bo st.f st.os l) (x : Int) (hx : 0 ≤ x ∧ x < 18446744073709551616) :
    Calls Try.prog 79 #[.int .u64 x, .pointer (some ⟨bm, 0, none⟩), .pointer (some ⟨bs, 0, none⟩), .pointer (some ⟨bo, 0, none⟩)] W fun e W' =>
      e = .returned (.bool (add1 st.f st.os l x).isSome) ∧ Wk w W' g bm bs bo st.f st.os ((add1 st.f st.os l x).getD l) := by
  have hI := fun W => Pa.num_IsInt.calls x (x % 2 == 1) W (isInt_f hx)
  have hT := fun W => Pa.num_ToPtr.calls x (toP x) W (toP_f hx)
  by_cases h1 : x % 2 = 1
  · have e1 : (x % 2 == 1) = true := beq_iff_eq.2 h1
    rw [e1] at hI
    have ha : add1 st.f st.os l x = some l := if_pos h1
    rw [ha]
    go_enter Try.func79, Try.ntmps79
    go_wp2_with (first | (go_at_call 52; (with_reducible refine (hI _).mono ?_); rintro e w1 ⟨rfl, hd1⟩))
    go_ret
    exact ⟨rfl, K.drawn hd1⟩
  · have e1 : (x % 2 == 1) = false := by simpa using h1
    rw [e1] at hI
    have hr := toP_range x
    by_cases h2 : x / 2 ∈ heads st.f st.os
    · have hP := toP_head M h1 h2
      obtain ⟨i, hi, hai⟩ := mem_heads.1 h2
      have hR := M.head_range h2
      have hlm := M.os_len
      have hol := K.ord.len
      obtain ⟨a, hA⟩ : ∃ a, x / 2 = a := ⟨_, rfl⟩
      rw [hP] at hT
      rw [hA] at hT hai h2 hR
      have hL : ∀ W', Below w.heap.size w W' → Calls Try.prog 34 #[.pointer (some ⟨g, 0, none⟩), .int .i64 a] W' fun e w' => e = .returned (.tuple #[.int .i64 st.os[i].kind, .int .i64 st.os[i].fs.length, .int .i64 st.os[i].tag, .int .i64 0]) ∧ Drawn0 W' w' := fun W' hb => by
        have h := (M.below hb).look i hi
        rw [← hai] at h
        exact h
      have hadd : add1 st.f st.os l x = if a ∈ l then some l else some (l ++ [a]) := by unfold add1; rw [if_neg h1, hA, if_pos h2]
      clear hai hA
      by_cases h3 : a ∈ l
      · have ha : add1 st.f st.os l x = some l := by rw [hadd, if_pos h3]
        rw [ha]
        clear hadd ha
        go_enter Try.func79, Try.ntmps79
        go_wp2_with (first
          | (go_at_call 52; (with_reducible refine (hI _).mono ?_); rintro e w1 ⟨rfl, hd1⟩)
          | (go_at_call 54; (with_reducible refine (hT _).mono ?_); rintro e w2 ⟨rfl, hd2⟩
             have K2 := (K.drawn hd1).drawn hd2
             have hc2 : w2.cell? ⟨bm, 0, none⟩ = some (.pointer (some ⟨g, 0, none⟩)) := (blk_cell K2.m 0).trans rfl)
          | (go_at_call 34; (with_reducible refine (hL _ K2.hb).mono ?_); rintro e w3 ⟨rfl, hd3⟩
             have K3 := K2.drawn hd3
             obtain ⟨mb, s1, s2, n, D, s3, s4, s5, s6⟩ := K3.s
             have hc3 : w3.cell? ⟨bs, 0, none⟩ = some (.map (some mb)) := (blk_cell s1 0).trans rfl)
          | (at_lookup; refine wpList_lookup_own_int _ rfl _ _ 94 rfl 3 3 .i64 (Maps.int_keyed Try.underlying3) Try.underlying94 Try.underlying3 (zero3 _) mb n D rfl s3 (.int .i64 a) (.int .i64 a) rfl (Maps.keyOf_int_mk Try.underlying3 (wf_i64 (by omega))) ?_; intro cc hat hwfc
             obtain rfl : cc = 1 := by
               rw [s6 a, if_pos h3] at hat
               injection hat with hat
               injection hat with _ hat
               exact hat.symm))
        go_ret
        exact ⟨rfl, K3⟩
      · have ha : add1 st.f st.os l x = some (l ++ [a]) := by rw [hadd, if_neg h3]
        rw [ha]
        clear hadd ha
        go_enter Try.func79, Try.ntmps79
        go_wp2_with (first
          | (go_at_call 52; (with_reducible refine (hI _).mono ?_); rintro e w1 ⟨rfl, hd1⟩)
          | (go_at_call 54; (with_reducible refine (hT _).mono ?_); rintro e w2 ⟨rfl, hd2⟩
             have K2 := (K.drawn hd1).drawn hd2
             have hc2 : w2.cell? ⟨bm, 0, none⟩ = some (.pointer (some ⟨g, 0, none⟩)) := (blk_cell K2.m 0).trans rfl)
          | (go_at_call 34; (with_reducible refine (hL _ K2.hb).mono ?_); rintro e w3 ⟨rfl, hd3⟩
             have K3 := K2.drawn hd3
             obtain ⟨mb, s1, s2, n, D, s3, s4, s5, s6⟩ := K3.s
             obtain ⟨A, c, o1, o2⟩ := K3.o
             have hc3 : w3.cell? ⟨bs, 0, none⟩ = some (.map (some mb)) := (blk_cell s1 0).trans rfl
             have hc3b : w3.cell? ⟨bo, 0, none⟩ = some (.slice A l.length c) := (blk_cell o1 0).trans rfl)
          | (at_lookup; refine wpList_lookup_own_int _ rfl _ _ 94 rfl 3 3 .i64 (Maps.int_keyed Try.underlying3) Try.underlying94 Try.underlying3 (zero3 _) mb n D rfl s3 (.int .i64 a) (.int .i64 a) rfl (Maps.keyOf_int_mk Try.underlying3 (wf_i64 (by omega))) ?_; intro cc hat hwfc
             obtain rfl : cc = 0 := by
               rw [s6 a, if_neg h3] at hat
               injection hat with hat
               injection hat with _ hat
               exact hat.symm)
          | (at_mapUpdate; refine wpList_mapUpdate_own _ rfl _ _ _ 94 rfl 3 3 (Maps.int_keyed Try.underlying3) Try.underlying94 _ mb n D rfl s3 (by simp only [maxLen]; omega) (.int .i64 a) (.int .i64 1) (.int .i64 a) rfl rfl (Maps.keyOf_int_mk Try.underlying3 (wf_i64 (by omega))) (.lit (.int .i64 1)) [] (plainElem_int Try.underlying3 (wf_i64 (by omega))) ?_; intro w4 hown4 hg4
             have fr4 : Fr (fun k => k = mb) w3 w4 := Fr.of_grown hg4 (fun k e => by cases e; rfl)
             have o14 : w4.heap[bo]? = some (.cells #[.slice A l.length c] 23 (0, 0)) := (fr4.same _ (blk_lt o1) (fun e => map_ne s3 o1 e.symm)).trans o1
             have o24 := R_far_lt o2 fr4 (fun k hk e => by
               obtain ⟨cs, h⟩ := Kd.R_typed o2 k hk
               exact map_ne s3 h e.symm)
             have hc4 : w4.cell? ⟨bo, 0, none⟩ = some (.slice A l.length c) := (blk_cell o14 0).trans rfl
             have hb4 : Below w.heap.size w w4 := ⟨fr4.low.os.trans K3.hb.os, fr4.low.tape.trans K3.hb.tape, fr4.low.output.trans K3.hb.output, Nat.le_trans K3.hb.size fr4.low.size, fun k hk => (fr4.same k (Nat.lt_of_lt_of_le hk K3.hb.size) (by omega)).trans (K3.hb.block k hk)⟩)
          | ((with_reducible refine gate_builtin (b := .append) (xs := #[.tmp 31, .tmp 33]) rfl ?_); at_builtin; refine Kd.R_append (Kd.int .i64) w.heap.size rfl (.tmp 31) (.tmp 33) 23 3 (.int .i64 0) 8 rfl Try.underlying23 info3' rfl (by decide) (by omega) (.slice A l.length c) l a [.int .i64 a] (fun _ => True) (fun _ => False) rfl rfl rfl (fun _ hk => hk.elim) (fun _ _ => trivial) o24 hb4 hb4.size (by omega) ?_; intro v5 w5 ho5 hb5 hg5 hat5
             obtain ⟨A5, c5, rfl⟩ := Kd.R_slice ho5
             have hlen5 : (l ++ [a]).length = l.length + 1 := by simp
             rw [hlen5] at ho5 ⊢
             have o55 : w5.heap[bo]? = some (.cells #[.slice A l.length c] 23 (0, 0)) := (hg5.block bo (blk_lt o14) (fun e => by
               obtain ⟨cs, h⟩ := Kd.R_typed o24 bo e.symm
               rw [o14] at h
               cases h)).trans o14
             have hc5 : w5.cell? ⟨bo, 0, none⟩ = some (.slice A l.length c) := (blk_cell o55 0).trans rfl
             have hf5 := blk_frozen o55 0))
        go_ret
        exact ⟨rfl, K3.push s1 s2 s3 s4 s5 s6 h3 h2 o1 o2 hown4 hg4 ho5 hg5⟩
    · have hL := fun W' (hb : Below w.heap.size w W') => (M.below hb).look_no (toP x) (by omega) (toP_no M h1 h2)
      have ha : add1 st.f st.os l x = none := by unfold add1; rw [if_neg h1, if_neg h2]
      rw [ha]
      go_enter Try.func79, Try.ntmps79
      go_wp2_with (first
        | (go_at_call 52; (with_reducible refine (hI _).mono ?_); rintro e w1 ⟨rfl, hd1⟩)
        | (go_at_call 54; (with_reducible refine (hT _).mono ?_); rintro e w2 ⟨rfl, hd2⟩
           have K2 := (K.drawn hd1).drawn hd2
           have hc2 : w2.cell? ⟨bm, 0, none⟩ = some (.pointer (some ⟨g, 0, none⟩)) := (blk_cell K2.m 0).trans rfl)
        | (go_at_call 34; (with_reducible refine (hL _ K2.hb).mono ?_); rintro e w3 ⟨rfl, hd3⟩))
      go_ret
      exact ⟨rfl, K2.drawn hd3⟩
end Go.Proofs.Ytjccaojlldkmpaa.Mem
/- gc.walk: what can be reached, walked. -/
namespace Go.Proofs.Ytjccaojlldkmpaa.Mem
open Go.RowKit Go.Proofs.YtjccaojlldkmpaaW.PrintWords Go.Proofs.YtjccaojlldkmpaaW.PrintLast Go.Proofs.YtjccaojlldkmpaaW.PrintMore
open Hf (rightB hdr headOf partsOf)
set_option linter.unusedSimpArgs false
set_option linter.unusedVariables false
set_option maxRecDepth 100000
variable {S : Nat → Prop} {w W w' : World} {g n : Nat} {st : St}
theorem Wk.read {bm bs bo : Nat} {f : Int} {os : List O} {l : List Int} (K : Wk w W g bm bs bo f os l) (i : Nat) (hi : i < l.length) :
    ∃ gr cr, ∀ W', Below W.heap.size W W' → W'.cell? ⟨bm, 0, none⟩ = some (.pointer (some ⟨g, 0, none⟩)) ∧ W'.cell? ⟨bo, 0, none⟩ = some (.slice (some ⟨gr, 0, none⟩) l.length cr) ∧ W'.cell? ⟨gr, i, none⟩ = some (.int .i64 l[i]) := by
  obtain ⟨A, c, o1, o2⟩ := K.o
  obtain ⟨gr, cr, hv, -, -⟩ := Kd.R_form o2 (by omega)
  injection hv with e1 e2 e3
  subst e1 e3
  refine ⟨gr, c, fun W' hb => ⟨?_, ?_, ?_⟩⟩
  · exact (blk_cell ((hb.block _ (blk_lt K.m)).trans K.m) 0).trans rfl
  · exact (blk_cell ((hb.block _ (blk_lt o1)).trans o1) 0).trans rfl
  · have := (Kd.R_celln (0 : Int) (Kd.R_below o2 hb) (i : Int) (by omega) (by omega)).1
    rw [Int.toNat_natCast] at this
    rw [this]
    simp [rdOf, List.getD, hi]
theorem prefix_get {l l' : List Int} (h : l <+: l') (i : Nat) (hi : i < l.length) (hi' : i < l'.length) : l'[i] = l[i] := by
  obtain ⟨t, rfl⟩ := h
  rw [List.getElem_append_left hi]
theorem IsMem.obj_ok (M : IsMem S w g st) (i : Nat) (hi : i < st.os.length) : O.ok st.os[i] := by
  obtain ⟨vw, vh, ow, oh, mb, m, L⟩ := M
  exact L.H.ok _ (List.getElem_mem hi)
theorem IsMem.tag (M : IsMem S w g st) (i : Nat) (hi : i < st.os.length) : ∃ q : Nat, st.os[i].tag = (q : Int) ∧ q ≤ st.os[i].fs.length ∧ st.os[i].fs.length ≤ 16384 := by
  obtain ⟨p1, p2, p3, p4, p5, p6⟩ := Hf.right_parts (M.obj_ok i hi).1
  exact ⟨st.os[i].tag.toNat, by omega, by omega, by omega⟩
theorem getD_mem {fs : List Int} {j : Nat} (h : j < fs.length) : fs.getD j 0 ∈ fs := by
  have e : fs.getD j 0 = fs[j] := by simp [List.getD, h]
  rw [e]
  exact List.getElem_mem h
theorem take_split (fs : List Int) (j q : Nat) (h : j ≤ q) : fs.take j ++ (fs.take q).drop j = fs.take q := by
  have e : fs.take j = (fs.take q).take j := by rw [List.take_take, Nat.min_eq_left h]
  rw [e, List.take_append_drop]
theorem stamp0 {mb : Nat} (h : W.heap[mb]? = some (.map #[] 0)) : W.ownsMap Try.prog 3 (plainElem Try.prog 3) mb 0 (DataW.map [] : DataW Unit) := ⟨#[], 0, h, ⟨by simp, MapKept.stamped_empty 0, by simp⟩, Nat.le_refl _, rfl⟩
set_option maxHeartbeats 2000000 in
theorem Wk.start (w : World) (g bo bs : Nat) (f : Int) (os : List O) {w1 w2 : World} (h1 : Below (w.heap.size + 1) (w.alloc (.cells #[.pointer (some ⟨g, 0, none⟩)] 26)) w1)
    (ho : w1.heap[bo]? = some (.cells #[.slice none 0 0] 23 (0, 0))) (hbo : w.heap.size ≤ bo) (h2 : Below (w1.heap.size + 1) (w1.alloc (.map #[] 0)) w2) (hs : w2.heap[bs]? = some (.cells #[.map none] 94 (0, 0))) (hbs : w.heap.size ≤ bs) :
    Wk w (w2.setCell ⟨bs, 0, none⟩ (.map (some w1.heap.size))) g w.heap.size bs bo f os [] := by
  have e1 : w1.heap.size < (w1.alloc (.map #[] 0)).heap.size := by simp
  have hsz : w.heap.size + 1 ≤ w1.heap.size := by have := h1.size; simpa using this
  have hm1 : w1.heap[w.heap.size]? = some (.cells #[.pointer (some ⟨g, 0, none⟩)] 26 (0, 0)) := (h1.block _ (Nat.lt_succ_self _)).trans (blk_new w _)
  have low : ∀ k, k < w1.heap.size → w2.heap[k]? = w1.heap[k]? := fun k hk => (h2.block k (by omega)).trans ((below_alloc (Below.refl _ w1) (.map #[] 0)).block k hk)
  have hm2 := (low _ (by omega)).trans hm1
  have ho2 := (low _ (blk_lt ho)).trans ho
  have hmap : w2.heap[w1.heap.size]? = some (.map #[] 0) := (h2.block _ (by omega)).trans (blk_new w1 _)
  have ne : ∀ {k : Nat} {cs : Array Value} {t : TypeId}, w2.heap[k]? = some (.cells cs t (0, 0)) → t ≠ 94 → k ≠ bs := fun hk ht e => by
    subst e
    rw [hs] at hk
    cases hk
    exact ht rfl
  have hb2 : Below w.heap.size w w2 := by
    refine ⟨h2.os.trans h1.os, h2.tape.trans h1.tape, h2.output.trans h1.output, ?_, fun k hk => ?_⟩
    · have := h2.size
      simp at this
      omega
    · exact ((low k (by omega)).trans (h1.block k (by omega))).trans ((below_alloc (Below.refl _ w) (.cells #[.pointer (some ⟨g, 0, none⟩)] 26)).block k hk)
  have hsm : w1.heap.size ≠ bs := fun e => by
    rw [e, hs] at hmap
    cases hmap
  refine ⟨below_set hb2 hbs, blk_far hm2 (ne hm2 (by decide)) _, ⟨w1.heap.size, blk_put hs 0 _ rfl, by omega, 0, .map [], stamp0 ?_, Nat.le_refl _, Maps.isMap_empty, fun a => rfl⟩, ⟨none, 0, blk_far ho2 (ne ho2 (by decide)) _, Kd.R_nil _ _ _ _ _⟩, Nat.le_refl _, hbs, hbo, Ord.nil f os⟩
  exact ((Fr.of_set (S := fun k => k = bs) w2 ⟨bs, 0, none⟩ _ rfl).same _ (Array.getElem?_eq_some_iff.1 hmap).1 hsm).trans hmap
attribute [local go_sem] run_makeMap
set_option maxHeartbeats 8000000 in
theorem walk_any (M : IsMem S w g st) (A : Option Addr) (c : Nat) (xs : List Int) (hC : Kd.C (Kd.int .u64) w A xs.length xs) (hx : ∀ x ∈ xs, 0 ≤ x ∧ x < 18446744073709551616) (hxl : xs.length ≤ 100000) :
    Calls Try.prog 64 #[.pointer (some ⟨g, 0, none⟩), .slice A xs.length c] w fun e W => ∃ B d, e = .returned (.tuple #[.slice B (walkP st.f st.os xs).1.length d, .bool (walkP st.f st.os xs).2]) ∧
      (Kd.int .i64).R 3 W w.heap.size (fun _ => True) (.slice B (walkP st.f st.os xs).1.length d) (walkP st.f st.os xs).1 ∧ Below w.heap.size w W := by
  have hu23 := Try.underlying23
  have hu94 := Try.underlying94
  go_enter Try.func64, Try.ntmps64
  go_wp2_with fail
  go_step3
  go_wp2_with (first
    | ((with_reducible refine gate_dst (N := 6) rfl ?_); refine box_event ?hg (N := 6) ?hd (cs := #[.slice none 0 0]) (t := 23) ?hr ?_; (case hd => rfl); (case hg => rfl); (case hr => first | (go_simp; done) | (go_simp; rfl)); intro bo ho w1 hbox1 hb1; rw [World.size_alloc] at ho hb1; have HO := Aside0.mk ho; clear ho)
    | ((with_reducible refine gate_dst (N := 7) rfl ?_); refine box_event ?hg (N := 7) ?hd (cs := #[.map none]) (t := 94) ?hr ?_; (case hd => rfl); (case hg => rfl); (case hr => first | (go_simp; done) | (go_simp; rfl)); intro bs hs w2 hbox2 hb2; rw [World.size_alloc] at hs hb2; have HS := Aside0.mk hs; clear hs; have hc7 : w2.cell? ⟨bs, 0, none⟩ = some (.map none) := (blk_cell hbox2 0).trans rfl; have hf7 := blk_frozen hbox2 0))
  have K0 := Wk.start w g bo bs st.f st.os hb1 hbox1 (by rw [HO.out]; omega) hb2 hbox2 (by have := hb1.size; rw [World.size_alloc] at this; rw [HS.out]; omega)
  clear hb1 hbox1 hb2 hbox2 HO HS hc7 hf7 hu23 hu94
  generalize w2.setCell ⟨bs, 0, none⟩ (.map (some w1.heap.size)) = w3 at K0 ⊢
  generalize hbm : w.heap.size = bm at K0 ⊢
  go_loopw [9, 24] (fun ok i wr => ∃ k : Nat, k ≤ xs.length ∧ i = .int .i64 (k : Int) ∧ ok = .bool (addP st.f st.os [] (xs.take k)).2 ∧ Wk w wr g bm bs bo st.f st.os (addP st.f st.os [] (xs.take k)).1) (fun _ i _ => xs.length - (intOf i).toNat)
  case atStart => exact ⟨0, Nat.zero_le _, rfl, rfl, K0⟩
  case round =>
    clear K0
    obtain ⟨k, hk, rfl, rfl, K⟩ := hrel
    by_cases hk1 : k < xs.length
    · have t1 : decide ((k : Int) < (xs.length : Int)) = true := decide_eq_true (by omega)
      obtain ⟨ad, rfl, hrd⟩ := Kd.at_int (Kd.C_below hC K.hb) (k : Int) (by omega) (by omega)
      rw [Int.toNat_natCast] at hrd
      have hi0 : decide (0 ≤ (k : Int)) = true := decide_eq_true (by omega)
      have htk : xs.take (k + 1) = xs.take k ++ [rd xs (k : Int)] := by
        rw [List.take_succ_eq_append_getElem hk1]; congr 2; simp [rd, List.getD, hk1]
      have hxr := hx (rd xs (k : Int)) (by simp [rd, List.getD, hk1])
      cases hok : (addP st.f st.os [] (xs.take k)).2 with
      | true =>
        have hsn := addP_snoc st.f st.os [] (xs.take k) (rd xs (k : Int)) hok
        rw [← htk] at hsn
        have hG := good_any M K (rd xs (k : Int)) hxr
        go_wp2_with (first
          | (go_at_call 79; (with_reducible refine hG.mono ?_); clear hG; rintro e w5 ⟨rfl, K5⟩))
        go_roundw
        case rel => exact ⟨k + 1, by omega, by simp, by rw [hsn], by rw [hsn]; exact K5⟩
        case measure => simp [intOf]; omega
      | false =>
        have hsn := addP_stop st.f st.os [] (xs.take k) [rd xs (k : Int)] hok
        rw [← htk] at hsn
        go_wp2_with fail
        go_roundw
        case rel => exact ⟨k + 1, by omega, by simp, by rw [hsn, hok], by rw [hsn]; exact K⟩
        case measure => simp [intOf]; omega
    · obtain rfl : k = xs.length := by omega
      have t1 : decide (((xs.length : Nat) : Int) < (xs.length : Int)) = false := decide_eq_false (by omega)
      rw [List.take_length] at K ⊢
      clear hC hx t1
      go_wp2_with fail
      go_step3
      go_wp2_with fail
      have H0 : ∃ (i0 : Nat) (l : List Int) (b : Bool), (0 : Int) = (i0 : Int) ∧ (addP st.f st.os [] xs).2 = b ∧ Wk w wr g bm bs bo st.f st.os l ∧ i0 ≤ l.length ∧ (b = true → walkP st.f st.os xs = goP st.f st.os (st.os.length + 1 - i0) i0 l) ∧ (b = false → walkP st.f st.os xs = (l, false)) := by
        refine ⟨0, _, _, rfl, rfl, K, Nat.zero_le _, fun h => ?_, fun h => ?_⟩
        · unfold walkP; rw [if_pos h]; rfl
        · unfold walkP; rw [h]; exact Prod.ext rfl h
      clear K hk hk1
      generalize (addP st.f st.os [] xs).2 = b0 at H0 ⊢
      go_loopw [9, 12] (fun ok i wr => ∃ (i0 : Nat) (l : List Int) (b : Bool), i = .int .i64 (i0 : Int) ∧ ok = .bool b ∧ Wk w wr g bm bs bo st.f st.os l ∧ i0 ≤ l.length ∧ (b = true → walkP st.f st.os xs = goP st.f st.os (st.os.length + 1 - i0) i0 l) ∧ (b = false → walkP st.f st.os xs = (l, false))) (fun _ i _ => st.os.length + 1 - (intOf i).toNat)
      case atStart =>
        obtain ⟨i0, l, b, h1, h2, h3, h4, h5, h6⟩ := H0
        exact ⟨i0, l, b, by rw [h1], by rw [h2], h3, h4, h5, h6⟩
      case round =>
        clear H0
        obtain ⟨i0, l, b, rfl, rfl, K, hil, hW1, hW0⟩ := hrel
        obtain ⟨Ao, co, ho1, ho2⟩ := K.o
        have hcB : wr.cell? ⟨bo, 0, none⟩ = some (.slice Ao l.length co) := (blk_cell ho1 0).trans rfl
        have hol := K.ord.len
        have hml := M.os_len
        cases b with
        | false =>
          have hW := hW0 rfl
          clear hW1 hW0
          go_wp2_with fail
          try rw [Exit.noGoto_ret]
          go_ret2
          rw [hW]
          exact ⟨Ao, co, rfl, ho2, K.hb⟩
        | true =>
          have hW := hW1 rfl
          clear hW1 hW0
          by_cases hlt : i0 < l.length
          · have t1 : decide ((i0 : Int) < (l.length : Int)) = true := decide_eq_true (by omega)
            have hi0 : decide (0 ≤ (i0 : Int)) = true := decide_eq_true (by omega)
            obtain ⟨i, hi, hai⟩ := mem_heads.1 (K.ord.sub l[i0] (List.getElem_mem hlt))
            obtain ⟨q, hq, hq1, hq2⟩ := M.tag i hi
            have htg : tg st.f st.os l[i0] = st.os[i].fs.take q := by rw [hai, tg_at _ _ _ hi, hq, Int.toNat_natCast]
            have hok := (M.obj_ok i hi).2
            have hgo : goP st.f st.os (st.os.length + 1 - i0) i0 l = if (addP st.f st.os l (st.os[i].fs.take q)).2 then goP st.f st.os (st.os.length + 1 - (i0 + 1)) (i0 + 1) (addP st.f st.os l (st.os[i].fs.take q)).1 else addP st.f st.os l (st.os[i].fs.take q) := by
              rw [show st.os.length + 1 - i0 = (st.os.length + 1 - (i0 + 1)) + 1 by omega, goP, List.getElem?_eq_getElem hlt]
              simp only [htg]
            rw [hgo] at hW
            clear hgo
            obtain ⟨a, hA⟩ : ∃ a, l[i0] = a := ⟨_, rfl⟩
            have hL : ∀ W', Below w.heap.size w W' → Calls Try.prog 34 #[.pointer (some ⟨g, 0, none⟩), .int .i64 a] W' fun e w' => e = .returned (.tuple #[.int .i64 st.os[i].kind, .int .i64 st.os[i].fs.length, .int .i64 (q : Int), .int .i64 0]) ∧ Drawn0 W' w' := fun W' hb => by
              have h := (M.below hb).look i hi
              rw [← hai, hA, hq] at h
              exact h
            have hD : ∀ W' (j : Nat), Below w.heap.size w W' → j < q → Calls Try.prog 56 #[.pointer (some ⟨g, 0, none⟩), .int .i64 a, .int .i64 (j : Int)] W' fun e w' => e = .returned (.tuple #[.int .u64 (st.os[i].fs.getD j 0), .int .i64 0]) ∧ Drawn0 W' w' := fun W' j hb hj => by
              have h := (M.below hb).load i j hi (by omega)
              rw [← hai, hA] at h
              exact h
            obtain ⟨gr, cr, hS⟩ := K.read i0 hlt
            rw [hA] at hS
            clear hai hq htg hcB ho1 ho2
            obtain ⟨hS1, hS2, hS3⟩ := hS wr (Below.refl _ _)
            go_wp2_with fail
            have hSd := hS wr.drew (below_drew (Below.refl _ _))
            go_region_held3 (fun W' => W'.cell? ⟨bm, 0, none⟩ = some (.pointer (some ⟨g, 0, none⟩)) ∧ W'.cell? ⟨bo, 0, none⟩ = some (.slice (some ⟨gr, 0, none⟩) l.length cr) ∧ W'.cell? ⟨gr, i0, none⟩ = some (.int .i64 a))
              (first | (with_reducible exact ⟨hS1, hS2, hS3⟩) | (with_reducible exact hSd) | (with_reducible exact hS5))
              (first
                | (go_at_call 34; (with_reducible refine Calls.mono (hL _ (below_drew K.hb)) ?_); rintro e w5 ⟨rfl, hd5⟩; have K5 := (K.drawn (w' := wr.drew) ⟨1, rfl⟩).drawn hd5; have hS5 := hS w5 (below_step (below_drew (Below.refl _ _)) hd5.below)))
            have hord := K.ord
            have hpre := fun ys : List Int => (Ord.addP ys hord).2
            clear hS1 hS2 hS3 hSd hS5 hS hd5 hL K t1
            go_wp2_with fail
            obtain ⟨fs, hfs⟩ : ∃ fs, st.os[i].fs = fs := ⟨_, rfl⟩
            rw [hfs] at hD hok hW hq1 hq2
            generalize st.os[i].kind = kd
            rw [hfs]
            clear hfs
            go_loopw [9, 56] (fun okv jv wr => ∃ (j : Nat), okv = .bool true ∧ jv = .int .i64 (j : Int) ∧ j ≤ q ∧ (addP st.f st.os l (fs.take j)).2 = true ∧ Wk w wr g bm bs bo st.f st.os (addP st.f st.os l (fs.take j)).1) (fun _ jv _ => q - (intOf jv).toNat)
            case atStart => exact ⟨0, rfl, rfl, Nat.zero_le _, rfl, K5⟩
            case round =>
              clear K5
              obtain ⟨j, rfl, rfl, hjq, hj2, K⟩ := hrel
              by_cases hjn : j < q
              · have t3 : decide ((j : Int) < (q : Int)) = true := decide_eq_true (by omega)
                have hol2 := K.ord.len
                have hlt2 : i0 < (addP st.f st.os l (fs.take j)).1.length := Nat.lt_of_lt_of_le hlt (hpre (fs.take j)).length_le
                have hpg := prefix_get (hpre (fs.take j)) i0 hlt hlt2
                have htk : fs.take (j + 1) = fs.take j ++ [fs.getD j 0] := by
                  rw [List.take_succ_eq_append_getElem (by omega)]; congr 2; simp [List.getD, show j < fs.length by omega]
                have hxr := hok (fs.getD j 0) (getD_mem (by omega))
                have hsn := addP_snoc st.f st.os l (fs.take j) (fs.getD j 0) hj2
                rw [← htk] at hsn
                obtain ⟨y, hY⟩ : ∃ y, fs.getD j 0 = y := ⟨_, rfl⟩
                have hD1 := fun W' hb => hD W' j hb hjn
                rw [hY] at hD1 hxr hsn
                have hrest : (add1 st.f st.os (addP st.f st.os l (fs.take j)).1 y).isSome = false → addP st.f st.os l (fs.take q) = ((addP st.f st.os l (fs.take j)).1, false) := fun h => by
                  have e := addP_stop st.f st.os l (fs.take (j + 1)) ((fs.take q).drop (j + 1)) (by rw [hsn]; exact h)
                  have e2 := take_split fs (j + 1) q (by omega)
                  rw [e2] at e
                  rw [e, hsn]
                  rw [Option.isSome_eq_false_iff, Option.isNone_iff_eq_none] at h
                  rw [h]
                  rfl
                clear htk hY hD
                obtain ⟨l2, hl2⟩ : ∃ l2, (addP st.f st.os l (fs.take j)).1 = l2 := ⟨_, rfl⟩
                obtain ⟨gr, cr, hS⟩ := K.read i0 hlt2
                rw [hpg, hA] at hS
                rw [hl2] at K hol2 hsn hrest hS hlt2
                clear hpg hl2
                obtain ⟨hS1, hS2, hS3⟩ := hS wr (Below.refl _ _)
                have t4 : decide ((i0 : Int) < (l2.length : Int)) = true := decide_eq_true (by omega)
                go_wp2_with fail
                have hSd := hS wr.drew (below_drew (Below.refl _ _))
                go_region_held3 (fun W' => W'.cell? ⟨bm, 0, none⟩ = some (.pointer (some ⟨g, 0, none⟩)) ∧ W'.cell? ⟨bo, 0, none⟩ = some (.slice (some ⟨gr, 0, none⟩) l2.length cr) ∧ W'.cell? ⟨gr, i0, none⟩ = some (.int .i64 a))
                  (first | (with_reducible exact ⟨hS1, hS2, hS3⟩) | (with_reducible exact hSd) | (with_reducible exact hS5))
                  (first
                    | (go_at_call 56; (with_reducible refine Calls.mono (hD1 _ (below_drew K.hb)) ?_); rintro e w5 ⟨rfl, hd5⟩; have K5 := (K.drawn (w' := wr.drew) ⟨1, rfl⟩).drawn hd5; have hS5 := hS w5 (below_step (below_drew (Below.refl _ _)) hd5.below)))
                have hG := good_any M K5 y hxr
                clear hS1 hS2 hS3 hSd hS5 hS hd5 K t4 hD1
                cases had : add1 st.f st.os l2 y with
                | some l3 =>
                  rw [had] at hG hsn
                  replace hG : Calls Try.prog 79 #[.int .u64 y, .pointer (some ⟨bm, 0, none⟩), .pointer (some ⟨bs, 0, none⟩), .pointer (some ⟨bo, 0, none⟩)] w5 fun e W' => e = .returned (.bool true) ∧ Wk w W' g bm bs bo st.f st.os l3 := hG
                  replace hsn : addP st.f st.os l (fs.take (j + 1)) = (l3, true) := hsn
                  clear hrest had
                  go_wp2_with (first
                    | (go_at_call 79; (with_reducible refine hG.mono ?_); clear hG; rintro e w6 ⟨rfl, K6⟩))
                  go_roundw
                  case rel => exact ⟨j + 1, rfl, by simp, by omega, by rw [hsn], by rw [hsn]; exact K6⟩
                  case measure => simp [intOf]; omega
                | none =>
                  rw [had] at hG hrest
                  have hr := hrest rfl
                  rw [hr] at hW
                  replace hW : walkP st.f st.os xs = (l2, false) := hW
                  replace hG : Calls Try.prog 79 #[.int .u64 y, .pointer (some ⟨bm, 0, none⟩), .pointer (some ⟨bs, 0, none⟩), .pointer (some ⟨bo, 0, none⟩)] w5 fun e W' => e = .returned (.bool false) ∧ Wk w W' g bm bs bo st.f st.os l2 := hG
                  clear hrest had hsn hr
                  go_wp2_with (first
                    | (go_at_call 79; (with_reducible refine hG.mono ?_); clear hG; rintro e w6 ⟨rfl, K6⟩
                       obtain ⟨Ao, co, ho1, ho2⟩ := K6.o
                       have hcB : w6.cell? ⟨bo, 0, none⟩ = some (.slice Ao l2.length co) := (blk_cell ho1 0).trans rfl))
                  try rw [Exit.noGoto_ret]
                  go_ret2
                  rw [hW]
                  exact ⟨Ao, co, rfl, ho2, K6.hb⟩
              · obtain rfl : j = q := by omega
                have t3 : decide ((j : Int) < (j : Int)) = false := decide_eq_false (by omega)
                rw [hj2, if_pos rfl] at hW
                go_wp2_with fail
                go_roundw
                case rel => exact ⟨i0 + 1, _, true, by simp, rfl, K, Nat.lt_of_lt_of_le hlt (hpre _).length_le, fun _ => hW, fun h => by cases h⟩
                case measure => simp [intOf]; omega
          · obtain rfl : i0 = l.length := by omega
            have t1 : decide (((l.length : Nat) : Int) < (l.length : Int)) = false := decide_eq_false (by omega)
            have hWe : walkP st.f st.os xs = (l, true) := by
              rw [hW, show st.os.length + 1 - l.length = (st.os.length - l.length) + 1 by omega]
              simp [goP]
            go_wp2_with fail
            try rw [Exit.noGoto_ret]
            go_ret2
            rw [hWe]
            exact ⟨Ao, co, rfl, ho2, K.hb⟩
end Go.Proofs.Ytjccaojlldkmpaa.Mem
/- gc.Check, gc.Reach; what the iterators tell. -/
namespace Go.Proofs.Ytjccaojlldkmpaa.Mem
open Go.RowKit Go.Proofs.YtjccaojlldkmpaaW.PrintWords Go.Proofs.YtjccaojlldkmpaaW.PrintLast Go.Proofs.YtjccaojlldkmpaaW.PrintMore
open Hf (rightB hdr headOf partsOf)
open Rg
set_option linter.unusedSimpArgs false
set_option linter.unusedVariables false
set_option maxRecDepth 100000
variable {S : Nat → Prop} {w W w' : World} {g n : Nat} {st : St}
theorem check_any (M : IsMem S w g st) (A : Option Addr) (c : Nat) (xs : List Int) (hC : Kd.C (Kd.int .u64) w A xs.length xs) (hx : ∀ x ∈ xs, 0 ≤ x ∧ x < 18446744073709551616) (hxl : xs.length ≤ 100000) :
    Calls Try.prog 26 #[.pointer (some ⟨g, 0, none⟩), .slice A xs.length c] w fun e W => e = .returned (.int .i64 (if (walkP st.f st.os xs).2 then 0 else 40)) ∧ Below w.heap.size w W := by
  have hW := walk_any M A c xs hC hx hxl
  cases hr : (walkP st.f st.os xs).2 with
  | true =>
    rw [hr] at hW
    go_enter Try.func26, Try.ntmps26
    go_wp2_with (first | (go_at_call 64; (with_reducible refine hW.mono ?_); clear hW; rintro e w1 ⟨B, d, rfl, hR, hb⟩))
    go_ret
    exact ⟨rfl, hb⟩
  | false =>
    rw [hr] at hW
    go_enter Try.func26, Try.ntmps26
    go_wp2_with (first | (go_at_call 64; (with_reducible refine hW.mono ?_); clear hW; rintro e w1 ⟨B, d, rfl, hR, hb⟩))
    go_ret
    exact ⟨rfl, hb⟩
theorem check_nil (v : Value) (w : World) : Calls Try.prog 26 #[.pointer none, v] w fun e W => e = .returned (.int .i64 2) ∧ W = w := by
  go_enter Try.func26, Try.ntmps26
  go_wp2_with fail
  go_ret
  exact ⟨rfl, rfl⟩
/-- An iterator over a row of addresses. -/
def SeqAt (W : World) (base bo : Nat) (l : List Int) : Prop := base ≤ bo ∧ ∃ A c, W.heap[bo]? = some (.cells #[.slice A l.length c] 23 (0, 0)) ∧ (Kd.int .i64).R 3 W base (fun _ => True) (.slice A l.length c) l
/-- What is reached; nothing where a word is not good. -/
def reachL (st : St) (xs : List Int) : List Int := if (walkP st.f st.os xs).2 then (walkP st.f st.os xs).1 else []
set_option maxHeartbeats 4000000 in
theorem reach_any (M : IsMem S w g st) (A : Option Addr) (c : Nat) (xs : List Int) (hC : Kd.C (Kd.int .u64) w A xs.length xs) (hx : ∀ x ∈ xs, 0 ≤ x ∧ x < 18446744073709551616) (hxl : xs.length ≤ 100000) :
    Calls Try.prog 27 #[.pointer (some ⟨g, 0, none⟩), .slice A xs.length c] w fun e W => ∃ bo, e = .returned (.func (.func 65) #[] #[.pointer (some ⟨bo, 0, none⟩)]) ∧ SeqAt W w.heap.size bo (reachL st xs) ∧ Below w.heap.size w W := by
  have hu23 := Try.underlying23
  unfold reachL
  have hW : ∀ W, Below w.heap.size w W → _ := fun W hb => walk_any (M.below hb) A c xs (Kd.C_below hC hb) hx hxl
  cases hr : (walkP st.f st.os xs).2 with
  | true =>
    rw [hr] at hW
    obtain ⟨l, hl⟩ : ∃ l, (walkP st.f st.os xs).1 = l := ⟨_, rfl⟩
    rw [hl] at hW ⊢
    go_enter Try.func27, Try.ntmps27
    go_wp2_with (first
      | ((with_reducible refine gate_dst (N := 5) rfl ?_); refine box_event ?hg (N := 5) ?hd (cs := #[.slice none 0 0]) (t := 23) ?hr ?_; (case hd => rfl); (case hg => rfl); (case hr => first | (go_simp; done) | (go_simp; rfl)); intro bo ho w1 hbox1 hb1; have HO := Aside0.mk ho; clear ho)
      | (go_at_call 64; (with_reducible refine (hW _ hb1).mono ?_); clear hW; rintro e w2 ⟨B, d, rfl, hR, hb2⟩
         have hbox2 := blk_below hbox1 hb2
         have hc2 : w2.cell? ⟨bo, 0, none⟩ = some (.slice none 0 0) := (blk_cell hbox2 0).trans rfl
         have hf2 := blk_frozen hbox2 0))
    go_ret
    have hne : ∀ k, (Value.slice B l.length d).ownBlock = some k → ¬ k = bo := fun k hk e => by
      obtain ⟨cs, h⟩ := Kd.R_typed hR k hk
      rw [e, hbox2] at h
      cases h
    have hbo : w.heap.size ≤ bo := by rw [HO.out]; exact Nat.le_refl _
    exact ⟨bo, rfl, ⟨hbo, B, d, blk_put hbox2 0 _ rfl, Kd.R_lower (R_far_lt hR (Fr.of_set (S := fun k => k = bo) w2 ⟨bo, 0, none⟩ _ rfl) hne) hb1.size⟩, below_set (below_step hb1 hb2) hbo⟩
  | false =>
    rw [hr] at hW
    go_enter Try.func27, Try.ntmps27
    go_wp2_with (first
      | ((with_reducible refine gate_dst (N := 5) rfl ?_); refine box_event ?hg (N := 5) ?hd (cs := #[.slice none 0 0]) (t := 23) ?hr ?_; (case hd => rfl); (case hg => rfl); (case hr => first | (go_simp; done) | (go_simp; rfl)); intro bo ho w1 hbox1 hb1; have HO := Aside0.mk ho; clear ho)
      | (go_at_call 64; (with_reducible refine (hW _ hb1).mono ?_); clear hW; rintro e w2 ⟨B, d, rfl, hR, hb2⟩
         have hbox2 := blk_below hbox1 hb2))
    go_ret
    have hbo : w.heap.size ≤ bo := by rw [HO.out]; exact Nat.le_refl _
    exact ⟨bo, rfl, ⟨hbo, none, 0, hbox2, Kd.R_nil _ _ _ _ _⟩, below_step hb1 hb2⟩
theorem reach_nil (v : Value) (w : World) : Calls Try.prog 27 #[.pointer none, v] w fun e W => ∃ bo, e = .returned (.func (.func 65) #[] #[.pointer (some ⟨bo, 0, none⟩)]) ∧ SeqAt W w.heap.size bo [] ∧ Below w.heap.size w W := by
  have hu23 := Try.underlying23
  go_enter Try.func27, Try.ntmps27
  go_wp2_with (first
    | ((with_reducible refine gate_dst (N := 5) rfl ?_); refine box_event ?hg (N := 5) ?hd (cs := #[.slice none 0 0]) (t := 23) ?hr ?_; (case hd => rfl); (case hg => rfl); (case hr => first | (go_simp; done) | (go_simp; rfl)); intro bo ho w1 hbox1 hb1; have HO := Aside0.mk ho; clear ho))
  go_ret
  have hbo : w.heap.size ≤ bo := by rw [HO.out]; exact Nat.le_refl _
  exact ⟨bo, rfl, ⟨hbo, none, 0, hbox1, Kd.R_nil _ _ _ _ _⟩, hb1⟩
theorem seq_there (bo : Nat) (W : World) : (binOp .eql 48 (.func (.func 65) #[] #[.pointer (some ⟨bo, 0, none⟩)]) .nilFunc).run Try.prog W = .ok (.bool false) W := by
  first
  | rfl
  | kernel_rfl
theorem objs_there (bo : Nat) (W : World) : (binOp .eql 48 (.func (.func 66) #[] #[.pointer (some ⟨bo, 0, none⟩)]) .nilFunc).run Try.prog W = .ok (.bool false) W := by
  first
  | rfl
  | kernel_rfl
theorem objects_any (m : Option Addr) (w : World) : Calls Try.prog 31 #[.pointer m] w fun e w' => e = .returned (.func (.func 66) #[] #[.pointer (some ⟨w.heap.size, 0, none⟩)]) ∧ w' = w.alloc (.cells #[.pointer m] 26) := by
  go_enter Try.func31, Try.ntmps31
  go_wp2_with fail
  go_ret
  exact ⟨rfl, rfl⟩
attribute [local go_sem] Oper.semAt_some
set_option maxHeartbeats 4000000 in
/-- gc.Reach's iterator tells its row, one by one. -/
theorem reach_feeds (F : Fence) (m : Nat) (h65 : F.fn 65) (hro : F.round = none) (hm : 1 ≤ m) (bo : Nat) (l : List Int) (I : Nat → World → Prop) (w0 : World) (A : Option Addr) (c : Nat) (hl : l.length ≤ 100000)
    (hI : ∀ k W, I k W → W.heap[bo]? = some (.cells #[.slice A l.length c] 23 (0, 0)) ∧ (Kd.int .i64).R 3 W 0 (fun _ => True) (.slice A l.length c) l) :
    Feeds F m Try.prog 65 #[.pointer (some ⟨bo, 0, none⟩)] (fun k => #[.int .i64 (rdOf 0 l (k : Int))]) l.length I w0 := by
  intro lp J W hW hJI hY h0
  have hc0 : W.cell? ⟨bo, 0, none⟩ = some (.slice A l.length c) := (blk_cell (hI 0 W (hJI 0 W h0)).1 0).trans rfl
  refine callsIn_of_wp Try.func65 rfl h65 ?_ hro
  simp only [Try.ntmps65, List.size_toArray, List.length_cons, List.length_nil, Nat.reduceAdd, Nat.reduceSub, Array.replicate_succ, Array.replicate_zero, List.push_toArray, List.append_toArray, List.nil_append, List.cons_append]
  gi_wp2
  gi_loopw [7] (fun i wr => ∃ k : Nat, k ≤ l.length ∧ i = .int .i64 k ∧ J k wr) (fun i _ => l.length - (intOf i).toNat)
  case atStart => exact ⟨0, Nat.zero_le _, rfl, h0⟩
  case round =>
    obtain ⟨k, hk, rfl, hJ⟩ := hrel
    by_cases hlt : k < l.length
    · obtain ⟨hbx, hR⟩ := hI k wr (hJI k wr hJ)
      obtain ⟨gr, cr, hv, -, -⟩ := Kd.R_form hR (by omega)
      injection hv with e1 e2 e3
      subst e1 e3
      have hcl := (Kd.R_celln (0 : Int) hR (k : Int) (by omega) (by omega)).1
      rw [Int.toNat_natCast] at hcl
      have t1 : decide ((k : Int) < (l.length : Int)) = true := decide_eq_true (by omega)
      have t0 : decide (0 ≤ (k : Int)) = true := decide_eq_true (by omega)
      obtain ⟨fn, tmps, assign, body, hy, hRd⟩ := hY k wr hJ hlt
      clear hc0 hbx hR
      gi_wp2
      refine hRd.mono ?_
      rintro e W3 ⟨rfl, hJ3⟩
      gi_wp2
      go_roundw
      case rel => exact ⟨k + 1, by omega, by simp, hJ3⟩
      case measure => simp [intOf]; omega
    · obtain rfl : k = l.length := by omega
      gi_wp2
      go_end0
      exact ⟨⟨_, rfl⟩, hJ⟩
set_option maxHeartbeats 4000000 in
/-- A memory's iterator tells its objects' addresses, as they stand at each round. -/
theorem objs_feeds (F : Fence) (m : Nat) (h66 : F.fn 66) (hro : F.round = none) (hm : 1 ≤ m) (B N : Nat) (st : Nat → St) (I : Nat → World → Prop) (w0 : World)
    (hI : ∀ k W, k ≤ N → I k W → W.heap[B]? = some (.cells #[.pointer (some ⟨g, 0, none⟩)] 26 (0, 0)) ∧ ∃ S D, IsMem S W g { st k with mvd := D }) (hlt : ∀ k, k < N → k < (st k).os.length) (hN : (st N).os.length = N) :
    Feeds F m Try.prog 66 #[.pointer (some ⟨B, 0, none⟩)] (fun k => #[.int .i64 ((st k).f + (pos (st k).os k : Int))]) N I w0 := by
  intro lp J W hW hJI hY h0
  refine callsIn_of_wp Try.func66 rfl h66 ?_ hro
  simp only [Try.ntmps66, List.size_toArray, List.length_cons, List.length_nil, Nat.reduceAdd, Nat.reduceSub, Array.replicate_succ, Array.replicate_zero, List.push_toArray, List.append_toArray, List.nil_append, List.cons_append]
  gi_wp2
  gi_loopw [3] (fun i wr => ∃ k : Nat, k ≤ N ∧ i = .int .i64 k ∧ J k wr) (fun i _ => N - (intOf i).toNat)
  case atStart => exact ⟨0, Nat.zero_le _, rfl, h0⟩
  case round =>
    obtain ⟨k, hk, rfl, hJ⟩ := hrel
    obtain ⟨hbx, S, D, M⟩ := hI k wr hk (hJI k wr hJ)
    have hlm : (st k).os.length ≤ 65536 := M.os_len
    obtain ⟨vw, vh, ow, oh, mb, n, L⟩ := M
    obtain ⟨A, c, rfl⟩ := Kd.R_slice L.H.hs
    have hlh := heads_length (st k).f (st k).os
    have hR : Hs wr (.slice A (heads (st k).f (st k).os).length c) (heads (st k).f (st k).os) := L.H.hs
    rw [hlh] at hR
    have hcb : wr.cell? ⟨B, 0, none⟩ = some (.pointer (some ⟨g, 0, none⟩)) := (blk_cell hbx 0).trans rfl
    have hcg : wr.cell? ⟨g, 4, none⟩ = some (.slice A (heads (st k).f (st k).os).length c) := (blk_cell L.H.blk 4).trans rfl
    rw [hlh] at hcg
    clear hbx L hlh
    by_cases hlt' : k < N
    · have hk2 := hlt k hlt'
      obtain ⟨gr, cr, hv, -, -⟩ := Kd.R_form hR (by rw [heads_length]; omega)
      injection hv with e1 e2 e3
      subst e1 e3
      have hcl := (Kd.R_celln (0 : Int) hR (k : Int) (by omega) (by omega)).1
      rw [Int.toNat_natCast, heads_getD _ _ _ hk2] at hcl
      obtain ⟨a, hA⟩ : ∃ a, (st k).f + (pos (st k).os k : Int) = a := ⟨_, rfl⟩
      have hY' := hY k wr hJ hlt'
      rw [hA] at hY' hcl
      clear hA hR e2
      generalize (st k).os.length = len at hcg hk2 hlm ⊢
      have t1 : decide ((k : Int) < (len : Int)) = true := decide_eq_true (by omega)
      have t0 : decide (0 ≤ (k : Int)) = true := decide_eq_true (by omega)
      obtain ⟨fn, tmps, assign, body, hy, hRd⟩ := hY'
      gi_wp2
      refine hRd.mono ?_
      rintro e W3 ⟨rfl, hJ3⟩
      gi_wp2
      go_roundw
      case rel => exact ⟨k + 1, by omega, by simp, hJ3⟩
      case measure => simp [intOf]; omega
    · obtain rfl : k = N := by omega
      rw [hN] at hcg
      have t1 : decide ((k : Int) < (k : Int)) = false := decide_eq_false (by omega)
      clear hR
      gi_wp2
      go_end0
      exact ⟨⟨_, rfl⟩, hJ⟩
end Go.Proofs.Ytjccaojlldkmpaa.Mem
/- gc.Collect: the closure that moves a word. -/
namespace Go.Proofs.Ytjccaojlldkmpaa.Mem
open Go.RowKit Go.Proofs.YtjccaojlldkmpaaW.PrintWords Go.Proofs.YtjccaojlldkmpaaW.PrintLast Go.Proofs.YtjccaojlldkmpaaW.PrintMore
open Hf (rightB hdr headOf partsOf)
set_option linter.unusedSimpArgs false
set_option linter.unusedVariables false
set_option maxRecDepth 100000
variable {S : Nat → Prop} {w W w' : World} {g n B : Nat} {st : St}
/-- The words of some objects. -/
def tot (ns : List Nat) (l : List Nat) : Nat := (l.map (fun i => ns.getD i 0 + 1)).sum
theorem tot_append (ns a b : List Nat) : tot ns (a ++ b) = tot ns a + tot ns b := by simp [tot]
theorem tot_erase (ns : List Nat) (a : Nat) : ∀ l : List Nat, a ∈ l → tot ns l = (ns.getD a 0 + 1) + tot ns (l.erase a)
  | [], h => by cases h
  | b :: l, h => by
    by_cases e : b = a
    · subst e
      rw [List.erase_cons_head]
      simp [tot]
    · have hm : a ∈ l := by
        rcases List.mem_cons.1 h with h | h
        · exact absurd h.symm e
        · exact h
      rw [List.erase_cons_tail (by simpa using e)]
      have := tot_erase ns a l hm
      simp only [tot, List.map_cons, List.sum_cons] at this ⊢
      omega
theorem tot_le (ns : List Nat) (n : Nat) : ∀ l : List Nat, l.Nodup → (∀ i ∈ l, i < n) → tot ns l ≤ tot ns (List.range n) := by
  induction n with
  | zero =>
    intro l _ h
    cases l with
    | nil => exact Nat.le_refl _
    | cons a l => exact absurd (h a (by simp)) (Nat.not_lt_zero a)
  | succ n ih =>
    intro l hn h
    rw [List.range_succ, tot_append]
    have h1 : tot ns [n] = ns.getD n 0 + 1 := by simp [tot]
    by_cases hm : n ∈ l
    · have h2 := ih (l.erase n) (hn.erase n) (fun i hi => by
        have := (List.Nodup.mem_erase_iff hn).1 hi
        have := h i this.2
        omega)
      rw [tot_erase ns n l hm]
      omega
    · have h2 := ih l hn (fun i hi => by
        have h3 := h i hi
        have : i ≠ n := fun e => hm (e ▸ hi)
        omega)
      omega
/-- Different objects need no more room than all. -/
theorem ord_fit {f : Int} {os : List O} {l : List Int} (h : Ord f os l) : (flat (l.map (obAt f os))).length ≤ (flat os).length := by
  have e1 : (flat (l.map (obAt f os))).length = tot (os.map (fun o => o.fs.length)) (l.map (fun a => (heads f os).idxOf a)) := by
    rw [flat_len]
    unfold tot
    rw [List.map_map, List.map_map, List.map_map]
    congr 1
    apply List.map_congr_left
    intro a ha
    obtain ⟨i, hi, rfl⟩ := mem_heads.1 (h.sub a ha)
    simp only [Function.comp_def, obAt_at f os i hi, heads_idx f os i hi]
    simp [List.getD, hi]
  have e2 : (flat os).length = tot (os.map (fun o => o.fs.length)) (List.range os.length) := by
    rw [flat_len]
    unfold tot
    congr 1
    apply List.ext_getElem
    · simp
    · intro i h1 h2
      have hi : i < os.length := by simpa using h2
      simp [List.getD, hi]
  rw [e1, e2]
  apply tot_le
  · have h2 : (l.map (fun a => (heads f os).idxOf a)).Nodup := by
      rw [List.Nodup, List.pairwise_map]
      refine List.Pairwise.imp_of_mem ?_ h.nd
      intro a b ha hb hab e
      obtain ⟨i, hi, rfl⟩ := mem_heads.1 (h.sub a ha)
      obtain ⟨j, hj, rfl⟩ := mem_heads.1 (h.sub b hb)
      rw [heads_idx f os i hi, heads_idx f os j hj] at e
      exact hab (by rw [e])
    exact h2
  · intro i hi
    obtain ⟨a, ha, rfl⟩ := List.mem_map.1 hi
    obtain ⟨j, hj, rfl⟩ := mem_heads.1 (h.sub a ha)
    rw [heads_idx f os j hj]
    exact hj
/-- The state on the way. -/
def cst (st0 : St) (os : List O) (D : DataW Unit) : St := ⟨st0.size, 1 - st0.half, os, st0.os, D⟩
theorem cst_f (st0 : St) (os : List O) (D : DataW Unit) : (cst st0 os D).f = st0.f2 := rfl
theorem cst_f2 (st0 : St) (os : List O) (D : DataW Unit) : (cst st0 os D).f2 = st0.f := by
  show 1 + (1 - (1 - st0.half)) * st0.size = 1 + st0.half * st0.size
  rw [show 1 - (1 - st0.half) = st0.half by omega]
structure CqD (B : Nat) (S : Nat → Prop) (w : World) (g : Nat) (st0 : St) (L l : List Int) (os : List O) (D : DataW Unit) : Prop where
  mem : IsAt B S w g (cst st0 os D)
  isMap : Maps.IsMap D
  yes : ∀ p (h : p < l.length), Maps.has D (.int .i64 l[p]) = true ∧ ∀ z, D.atKey (.int .i64 l[p]) z = .lit (.int .i64 (st0.f2 + (pos (L.map (obAt st0.f st0.os)) p : Int)))
  no : ∀ a, a ∉ l → Maps.has D (.int .i64 a) = false
  lens : os.map (fun o => o.fs.length) = (l.map (obAt st0.f st0.os)).map (fun o => o.fs.length)
  pre : l <+: L
  ord : Ord st0.f st0.os L
  size : 64 ≤ st0.size ∧ st0.size ≤ 65536
  half : st0.half = 0 ∨ st0.half = 1
/-- A memory on the way: the objects of l are moved, as os; L is what will be. -/
def Cq (B : Nat) (S : Nat → Prop) (w : World) (g : Nat) (st0 : St) (L l : List Int) (os : List O) : Prop := ∃ D, CqD B S w g st0 L l os D
theorem cw_new {f1 f : Int} {os : List O} {L l : List Int} {x : Int} (ho : Ord f os L) (hx : ¬ x % 2 = 1) (h : l ++ [x / 2] <+: L) : cw f1 f os L x = 2 * (f1 + ((flat (l.map (obAt f os))).length : Int)) := by
  obtain ⟨t, rfl⟩ := h
  have hnd := ho.nd
  unfold cw
  rw [if_neg hx]
  have hi : List.idxOf (x / 2) ((l ++ [x / 2]) ++ t) = l.length := by
    have hl : l.length < ((l ++ [x / 2]) ++ t).length := by simp
    have := hnd.idxOf_getElem l.length hl
    simpa using this
  rw [hi, List.map_append, List.map_append, List.append_assoc]
  congr 3
  unfold pos
  rw [List.take_left' (by simp)]
theorem cw_old {f1 f : Int} {os : List O} {L : List Int} {x : Int} (ho : Ord f os L) (hx : ¬ x % 2 = 1) (p : Nat) (hp : p < L.length) (h : L[p] = x / 2) : cw f1 f os L x = 2 * (f1 + (pos (L.map (obAt f os)) p : Int)) := by
  unfold cw
  rw [if_neg hx, ← h, ho.nd.idxOf_getElem p hp]
theorem ptr_f {a : Int} (h : 1 ≤ a ∧ a ≤ 300000) : Pa.num_Ptr.f a = some (2 * a) := by
  unfold Pa.num_Ptr.f
  rw [if_neg (by omega), if_neg (by omega), IntKind.wrap_u64, IntKind.wrap_u64]
  congr 1
  omega
theorem add1_odd {f : Int} {os : List O} {l : List Int} {x : Int} (h : x % 2 = 1) : add1 f os l x = some l := if_pos h
theorem add1_even {f : Int} {os : List O} {l l2 : List Int} {x : Int} (h : ¬ x % 2 = 1) (e : add1 f os l x = some l2) : x / 2 ∈ heads f os ∧ ((x / 2 ∈ l ∧ l2 = l) ∨ (x / 2 ∉ l ∧ l2 = l ++ [x / 2])) := by
  unfold add1 at e
  rw [if_neg h] at e
  by_cases h2 : x / 2 ∈ heads f os
  · rw [if_pos h2] at e
    refine ⟨h2, ?_⟩
    by_cases h3 : x / 2 ∈ l
    · rw [if_pos h3] at e; exact .inl ⟨h3, (Option.some.inj e).symm⟩
    · rw [if_neg h3] at e; exact .inr ⟨h3, (Option.some.inj e).symm⟩
  · rw [if_neg h2] at e; cases e
theorem Cq.more {st0 : St} {L l : List Int} {os : List O} (C : Cq B S w g st0 L l os) {T : Nat → Prop} (h : ∀ k, S k → T k) : Cq B T w g st0 L l os := by
  obtain ⟨D, C⟩ := C
  exact ⟨D, C.mem.more h, C.isMap, C.yes, C.no, C.lens, C.pre, C.ord, C.size, C.half⟩
theorem Cq.keep {st0 : St} {L l : List Int} {os : List O} (C : Cq B S w g st0 L l os) {T : Nat → Prop} (fr : Fr T w w') (h : ∀ k, S k → ¬ T k) : Cq B S w' g st0 L l os := by
  obtain ⟨D, C⟩ := C
  exact ⟨D, C.mem.keep fr h, C.isMap, C.yes, C.no, C.lens, C.pre, C.ord, C.size, C.half⟩
theorem Cq.drawn {st0 : St} {L l : List Int} {os : List O} (C : Cq B S w g st0 L l os) (hd : Drawn0 w w') : Cq B S w' g st0 L l os := C.keep (T := fun _ => False) (Fr.of_drawn hd) (fun _ _ h => h)
/-- One object goes, or has gone. -/
theorem Cq.move {st0 : St} {L l l2 : List Int} {os : List O} {x : Int} (C : Cq B S w g st0 L l os) (hx : ¬ x % 2 = 1) (hadd : add1 st0.f st0.os l x = some l2) (hp2 : l2 <+: L) :
    Calls Try.prog 53 #[.pointer (some ⟨g, 0, none⟩), .int .i64 (x / 2)] w fun e w' => ∃ T : Int, e = .returned (.tuple #[.int .i64 T, .int .i64 0]) ∧ cw st0.f2 st0.f st0.os L x = 2 * T ∧ 1 ≤ T ∧ T ≤ 300000 ∧
      Cq B (fun k => S k ∨ w.heap.size ≤ k) w' g st0 L l2 (os ++ (l2.drop l.length).map (obAt st0.f st0.os)) ∧ Fr S w w' := by
  obtain ⟨D, C⟩ := C
  obtain ⟨ha, hc⟩ := add1_even hx hadd
  obtain ⟨i, hi, hai⟩ := mem_heads.1 ha
  have hfb := C.mem.mem.fbound
  rw [cst_f] at hfb
  have hol : i < (cst st0 os D).olds.length := hi
  have hfl : (flat os).length = (flat (l.map (obAt st0.f st0.os))).length := by rw [flat_len, flat_len, C.lens]
  have hofit : ((flat st0.os).length : Int) ≤ st0.size := by
    obtain ⟨vw, vh, ow, oh, mb, n, LL⟩ := C.mem.mem
    exact LL.ofit
  have hfitL := ord_fit C.ord
  have hsz := C.size
  rcases hc with ⟨hm, rfl⟩ | ⟨hm, rfl⟩
  · obtain ⟨p, hp, hpe⟩ := List.mem_iff_getElem.1 hm
    have hpL : p < L.length := Nat.lt_of_lt_of_le hp C.pre.length_le
    have hcw := cw_old (f1 := st0.f2) C.ord hx p hpL ((prefix_get C.pre p hp hpL).trans hpe)
    obtain ⟨hy1, hy2⟩ := C.yes p hp
    rw [hpe, hai] at hy1 hy2
    have hmv := C.mem.mem.move_old i hol (st0.f2 + (pos (L.map (obAt st0.f st0.os)) p : Int)) (by rw [cst_f2]; exact hy1) (by rw [cst_f2]; exact hy2 _)
    rw [cst_f2, ← show x / 2 = st0.f + (pos (cst st0 os D).olds i : Int) from hai] at hmv
    refine hmv.mono ?_
    rintro e w1 ⟨rfl, hd⟩
    have hpp := pos_mono (L.map (obAt st0.f st0.os)) p (by rw [List.length_map]; omega)
    refine ⟨_, rfl, hcw, by omega, by omega, ?_, Fr.of_drawn hd⟩
    rw [List.drop_length, List.map_nil, List.append_nil]
    exact (Cq.drawn ⟨D, C⟩ hd).more (fun k h => .inl h)
  · have hcw := cw_new (f1 := st0.f2) C.ord hx hp2
    have hno := C.no _ hm
    have hl2 : Ord st0.f st0.os (l ++ [x / 2]) := by
      obtain ⟨t, e⟩ := hp2
      have h1 := C.ord.nd
      rw [← e] at h1
      refine ⟨(List.nodup_append.1 h1).1, fun a h => C.ord.sub a ?_⟩
      rw [← e]
      exact List.mem_append_left _ h
    have hfit2 := ord_fit hl2
    have hob : obAt st0.f st0.os (x / 2) = st0.os[i] := by rw [hai]; exact obAt_at _ _ i hi
    have hfl2 : (flat ((l ++ [x / 2]).map (obAt st0.f st0.os))).length = (flat (l.map (obAt st0.f st0.os))).length + st0.os[i].fs.length + 1 := by
      rw [List.map_append, flat_append, List.length_append, List.map_cons, List.map_nil, flat_one, hob, row_length]; omega
    have hmv := C.mem.move i hol (by rw [cst_f2, ← show x / 2 = st0.f + (pos (cst st0 os D).olds i : Int) from hai]; exact hno) (by
      show ((flat os).length : Int) + st0.os[i].fs.length + 1 ≤ st0.size
      omega)
    rw [cst_f2, cst_f, ← show x / 2 = st0.f + (pos (cst st0 os D).olds i : Int) from hai] at hmv
    refine hmv.mono ?_
    rintro e w1 ⟨rfl, hM, hF⟩
    have hdr : ((l ++ [x / 2]).drop l.length).map (obAt st0.f st0.os) = [st0.os[i]] := by rw [List.drop_left, List.map_cons, List.map_nil, hob]
    rw [hdr]
    refine ⟨_, rfl, ?_, ?_, ?_, ⟨D.put (.int .i64 (x / 2)) (.lit (.int .i64 (st0.f2 + ((flat os).length : Int)))), ⟨hM, ?_, ?_, ?_, ?_, ?_, C.ord, C.size, C.half⟩⟩, hF⟩
    · rw [hcw, ← hfl]; rfl
    · show 1 ≤ st0.f2 + ((flat os).length : Int); omega
    · show st0.f2 + ((flat os).length : Int) ≤ 300000; omega
    · exact C.isMap.put _ _
    · intro p hp
      have hlit : WideAt.IsKeyLit (Lit.int .i64 (x / 2)) := by first | exact trivial | exact .inl ⟨_, _, rfl⟩ | simp [WideAt.IsKeyLit]
      by_cases e : p = l.length
      · subst e
        have e2 : (l ++ [x / 2])[l.length] = x / 2 := by simp
        rw [e2]
        refine ⟨Maps.has_put_same C.isMap hlit _, fun z => ?_⟩
        rw [Maps.atKey_put_same C.isMap hlit]
        have e3 : pos (L.map (obAt st0.f st0.os)) l.length = (flat os).length := by
          rw [pos_map_pre _ hp2 _ (by simp), hfl, List.map_append]
          unfold pos
          rw [List.take_left' (by simp)]
        rw [e3]
      · have hp' : p < l.length := by simp at hp; omega
        have e2 : (l ++ [x / 2])[p] = l[p] := List.getElem_append_left hp'
        have hne : l[p] ≠ x / 2 := fun e => hm (e ▸ List.getElem_mem hp')
        have hne2 : Lit.int .i64 l[p] ≠ Lit.int .i64 (x / 2) := fun e => by injection e with _ e; exact hne e
        rw [e2]
        obtain ⟨h1, h2⟩ := C.yes p hp'
        exact ⟨(Maps.has_put_other hne2 _).trans h1, fun z => (Maps.atKey_put_other hne2 _ z).trans (h2 z)⟩
    · intro a ha2
      rw [List.mem_append, List.mem_singleton, not_or] at ha2
      have hne2 : Lit.int .i64 a ≠ Lit.int .i64 (x / 2) := fun e => by injection e with _ e; exact ha2.2 e
      exact (Maps.has_put_other hne2 _).trans (C.no a ha2.1)
    · rw [List.map_append, List.map_append, List.map_append, C.lens, List.map_cons, List.map_cons, List.map_nil, List.map_nil, List.map_cons, List.map_nil, hob]
    · exact hp2
set_option maxHeartbeats 4000000 in
theorem moved_any {st0 : St} {L l l2 : List Int} {os : List O} {x : Int} (C : Cq B S w g st0 L l os) (hxr : 0 ≤ x ∧ x < 18446744073709551616) (hadd : add1 st0.f st0.os l x = some l2) (hp2 : l2 <+: L)
    (b : Nat) (hb : w.heap[b]? = some (.cells #[.pointer (some ⟨g, 0, none⟩)] 26 (0, 0))) (hS : ¬ S b) :
    Calls Try.prog 51 #[.int .u64 x, .pointer (some ⟨b, 0, none⟩)] w fun e w' => e = .returned (.int .u64 (cw st0.f2 st0.f st0.os L x)) ∧
      Cq B (fun k => S k ∨ w.heap.size ≤ k) w' g st0 L l2 (os ++ (l2.drop l.length).map (obAt st0.f st0.os)) ∧ Fr S w w' := by
  have hI := fun W => Pa.num_IsInt.calls x (x % 2 == 1) W (isInt_f hxr)
  by_cases h1 : x % 2 = 1
  · have e1 : (x % 2 == 1) = true := beq_iff_eq.2 h1
    rw [e1] at hI
    have hcw : cw st0.f2 st0.f st0.os L x = x := if_pos h1
    have hl : l = l2 := by rw [add1_odd h1] at hadd; exact Option.some.inj hadd
    subst hl
    rw [hcw]
    go_enter Try.func51, Try.ntmps51
    go_wp2_with (first | (go_at_call 52; (with_reducible refine (hI _).mono ?_); rintro e w1 ⟨rfl, hd1⟩))
    go_ret
    refine ⟨rfl, ?_, Fr.of_drawn hd1⟩
    rw [List.drop_length, List.map_nil, List.append_nil]
    exact (C.drawn hd1).more (fun k h => .inl h)
  · have e1 : (x % 2 == 1) = false := by simpa using h1
    rw [e1] at hI
    have hh := (add1_even h1 hadd).1
    have hT : ∀ W, Calls Try.prog 54 #[.int .u64 x] W fun e w' => e = .returned (.int .i64 (x / 2)) ∧ Drawn0 W w' := fun W => by
      have h := Pa.num_ToPtr.calls x (toP x) W (toP_f hxr)
      obtain ⟨i, hi, hai⟩ := mem_heads.1 hh
      obtain ⟨D, C'⟩ := C
      have hfb := C'.mem.mem.fbound
      have := pos_mono st0.os i (Nat.le_of_lt hi)
      have hof : ((flat st0.os).length : Int) ≤ st0.size := by
        obtain ⟨vw, vh, ow, oh, mb, n, LL⟩ := C'.mem.mem
        exact LL.ofit
      have hsz := C'.size
      have hff : 1 ≤ st0.f ∧ st0.f ≤ 200000 := by
        unfold St.f
        rcases C'.half with h | h <;> rw [h] <;> omega
      have hpe : toP x = x / 2 := by unfold toP; rw [if_pos (by omega)]
      rw [hpe] at h
      exact h
    have hM : ∀ W, Drawn0 w W → _ := fun W hd => (C.drawn hd).move h1 hadd hp2
    have hP : ∀ W (T : Int), 1 ≤ T → T ≤ 300000 → Calls Try.prog 55 #[.int .i64 T] W fun e w' => e = .returned (.int .u64 (2 * T)) ∧ Drawn0 W w' := fun W T hT1 hT2 => Pa.num_Ptr.calls T (2 * T) W (ptr_f ⟨hT1, hT2⟩)
    go_enter Try.func51, Try.ntmps51
    go_wp2_with (first | (go_at_call 52; (with_reducible refine (hI _).mono ?_); rintro e w1 ⟨rfl, hd1⟩))
    have hb1 := blk_below hb hd1.below
    have hc1 : w1.cell? ⟨b, 0, none⟩ = some (.pointer (some ⟨g, 0, none⟩)) := (blk_cell hb1 0).trans rfl
    have hcd : w1.drew.cell? ⟨b, 0, none⟩ = some (.pointer (some ⟨g, 0, none⟩)) := hc1
    have hdd : Drawn0 w w1.drew := drawn_trans hd1 ⟨1, rfl⟩
    go_region_held3 (fun W' => W'.cell? ⟨b, 0, none⟩ = some (.pointer (some ⟨g, 0, none⟩)))
      (first | with_reducible exact hc1 | with_reducible exact hcd | with_reducible exact hc2 | with_reducible exact hc3)
      (first
        | (go_at_call 54; (with_reducible refine Calls.mono (hT _) ?_); rintro e w2 ⟨rfl, hd2⟩; have hw2 := drawn_trans hdd hd2; have hc2 : w2.cell? ⟨b, 0, none⟩ = some (.pointer (some ⟨g, 0, none⟩)) := (blk_cell (blk_below hb hw2.below) 0).trans rfl)
        | (go_at_call 53; (with_reducible refine Calls.mono (hM _ hw2) ?_); rintro e w3 ⟨T, rfl, hcw, hT1, hT2, hC3, hF3⟩; have hc3 : w3.cell? ⟨b, 0, none⟩ = some (.pointer (some ⟨g, 0, none⟩)) := (blk_cell ((hF3.same b (blk_lt (blk_below hb hw2.below)) hS).trans (blk_below hb hw2.below)) 0).trans rfl))
    go_wp2_with (first | (go_at_call 55; (with_reducible refine (hP _ T hT1 hT2).mono ?_); rintro e w4 ⟨rfl, hd4⟩))
    go_ret
    rw [hcw]
    refine ⟨rfl, (hC3.drawn hd4).more (fun k h => h.imp id (fun h => Nat.le_trans hw2.below.size h)), ((Fr.of_drawn hw2).trans hF3).trans (Fr.of_drawn hd4)⟩
end Go.Proofs.Ytjccaojlldkmpaa.Mem
/- gc.Collect: what can be reached goes into the other half. -/
namespace Go.Proofs.Ytjccaojlldkmpaa.Mem
open Go.RowKit Go.Proofs.YtjccaojlldkmpaaW.PrintWords Go.Proofs.YtjccaojlldkmpaaW.PrintLast Go.Proofs.YtjccaojlldkmpaaW.PrintMore
open Hf (rightB hdr headOf partsOf)
open Rg
set_option linter.unusedSimpArgs false
set_option linter.unusedVariables false
set_option maxRecDepth 100000
variable {S : Nat → Prop} {w W W' w' : World} {g n B : Nat} {st : St}
theorem cell_fr {T : Nat → Prop} (fr : Fr T w w') {a : Addr} {u : Value} (h : w.cell? a = some u) (hT : ¬ T a.block) : w'.cell? a = some u := by
  have hlt : a.block < w.heap.size := by
    rcases Nat.lt_or_ge a.block w.heap.size with h1 | h1
    · exact h1
    · rw [World.cell?, Array.getElem?_eq_none h1] at h
      cases h
  unfold World.cell? at h ⊢
  rw [fr.same a.block hlt hT]
  exact h
theorem C_fr {T : Nat → Prop} {k : IntKind} {A : Option Addr} {m : Nat} {xs : List Int} (h : Kd.C (Kd.int k) w A m xs) (fr : Fr T w w') (hT : ∀ ad, A = some ad → ¬ T ad.block) : Kd.C (Kd.int k) w' A m xs := by
  refine ⟨h.1, h.2.1, fun hn => ?_⟩
  obtain ⟨ad, he, hc⟩ := h.2.2 hn
  refine ⟨ad, he, fun j p hj => ?_⟩
  obtain ⟨cs, h1, h2, h3⟩ := hc j p hj
  exact ⟨cs, h1, h2, fun i u hu => cell_fr fr (h3 i u hu) (by rw [add_block]; exact hT ad he)⟩
theorem R_fr {k : IntKind} {e : TypeId} {v : Value} {xs : List Int} {b : Nat} {T : Nat → Prop} (h : (Kd.int k).R e w b (fun _ => True) v xs) (fr : Fr T w w') (hn : ∀ k, v.ownBlock = some k → ¬ T k) : (Kd.int k).R e w' b (fun _ => True) v xs :=
  Kd.R_mono (Kd.R_step (Kd.R_tight rfl h) (fun k hk hl => fr.same k hl (hn k hk.symm))) (fun _ _ => trivial)
theorem IsAt.bound (M : IsAt B S w g st) : IsAt B (fun k => S k ∧ k < w.heap.size ∧ (k < B ∨ ∃ o : Obj, w.heap[k]? = some o ∧ o.isCells = true)) w g st := by
  obtain ⟨vw, vh, ow, oh, mb, n, L, hmb⟩ := M
  have ce : ∀ {u : Value} {xs : List Int} {e : TypeId} {q : IntKind}, (Kd.int q).R e w 0 (fun _ => True) u xs → ∀ k, u.ownBlock = some k → k < w.heap.size ∧ (k < B ∨ ∃ o : Obj, w.heap[k]? = some o ∧ o.isCells = true) := fun h k hk =>
    ⟨Kd.R_lt h k hk, .inr (by obtain ⟨cs, h1⟩ := Kd.R_typed h k hk; exact ⟨_, h1, rfl⟩)⟩
  exact ⟨vw, vh, ow, oh, mb, n, ⟨L.H, L.sz, L.hf, L.fit, L.ofit, L.ows, L.ohs, L.ook, L.map, L.mn, L.apW, L.apH, ⟨L.s1, blk_lt L.H.blk, .inr ⟨_, L.H.blk, rfl⟩⟩, ⟨L.s2, L.map.lt, .inl hmb⟩, fun k hk => ⟨L.s3 k hk, ce L.H.ws k hk⟩, fun k hk => ⟨L.s4 k hk, ce L.H.hs k hk⟩, fun k hk => ⟨L.s5 k hk, ce L.ows k hk⟩, fun k hk => ⟨L.s6 k hk, ce L.ohs k hk⟩⟩, hmb⟩
theorem Cq.bound {st0 : St} {L l : List Int} {os : List O} (C : Cq B S w g st0 L l os) : Cq B (fun k => S k ∧ k < w.heap.size ∧ (k < B ∨ ∃ o : Obj, w.heap[k]? = some o ∧ o.isCells = true)) w g st0 L l os := by
  obtain ⟨D, C⟩ := C
  exact ⟨D, C.mem.bound, C.isMap, C.yes, C.no, C.lens, C.pre, C.ord, C.size, C.half⟩
/-- The footprint of the memory on its way, beside what the call itself made. -/
structure Foot (B : Nat) (w W : World) (S0 S : Nat → Prop) (bm b7 : Nat) (vo : Value) (X : Nat → Obj → Prop) : Prop where
  up : ∀ k, S k → S0 k ∨ w.heap.size ≤ k
  nm : ¬ S bm
  nf : ¬ S b7
  no : ∀ k, vo.ownBlock = some k → ¬ S k
  lt : ∀ k, S k → k < W.heap.size
  nx : ∀ k o, X k o → ¬ S k
  ce : ∀ k, S k → k < B ∨ ∃ o : Obj, W.heap[k]? = some o ∧ o.isCells = true
structure Co (B : Nat) (X : Nat → Obj → Prop) (w W : World) (g bm b7 : Nat) (S0 : Nat → Prop) (st0 : St) (L l : List Int) (os : List O) (vo : Value) (outs : List Int) : Prop where
  c : ∃ S, Cq B S W g st0 L l os ∧ Foot B w W S0 S bm b7 vo X
  m : W.heap[bm]? = some (.cells #[.pointer (some ⟨g, 0, none⟩)] 26 (0, 0))
  f : W.heap[b7]? = some (.cells #[.func (.func 51) #[] #[.pointer (some ⟨bm, 0, none⟩)]] 83 (0, 0))
  o : (Kd.int .u64).R 56 W w.heap.size (fun _ => True) vo outs
  fr : Fr S0 w W
  g1 : w.heap.size ≤ bm
  g2 : w.heap.size ≤ b7
  x : ∀ k o, X k o → W.heap[k]? = some o
variable {X : Nat → Obj → Prop}
variable {bm b7 : Nat} {S0 : Nat → Prop} {st0 : St} {L l l2 : List Int} {os os2 : List O} {vo : Value} {outs : List Int}
theorem Fr.down {w W : World} (h : ∀ k, S k → S0 k ∨ w.heap.size ≤ k) (fr0 : Fr S0 w W) (fr : Fr S W W') : Fr S0 w W' :=
  ⟨⟨fr.low.os.trans fr0.low.os, fr.low.tape.trans fr0.low.tape, fr.low.output.trans fr0.low.output, Nat.le_trans fr0.low.size fr.low.size, fun k hk => absurd hk (Nat.not_lt_zero k)⟩,
    fun k hk hn => (fr.same k (Nat.lt_of_lt_of_le hk fr0.low.size) (fun hs => by rcases h k hs with h | h; exact hn h; omega)).trans (fr0.same k hk hn)⟩
theorem Co.turn (K : Co B X w W g bm b7 S0 st0 L l os vo outs) {S : Nat → Prop} (F : Foot B w W S0 S bm b7 vo X) (C : Cq B (fun k => S k ∨ W.heap.size ≤ k) W' g st0 L l2 os2) (fr : Fr S W W') : Co B X w W' g bm b7 S0 st0 L l2 os2 vo outs where
  c := ⟨_, C.bound, {
    up := fun k hk => by
      rcases hk.1 with h | h
      · exact F.up k h
      · exact .inr (Nat.le_trans K.fr.low.size h)
    nm := fun hk => by
      rcases hk.1 with h | h
      · exact F.nm h
      · have := blk_lt K.m; omega
    nf := fun hk => by
      rcases hk.1 with h | h
      · exact F.nf h
      · have := blk_lt K.f; omega
    no := fun k hv hk => by
      rcases hk.1 with h | h
      · exact F.no k hv h
      · have := Kd.R_lt K.o k hv; omega
    lt := fun k hk => hk.2.1
    ce := fun k hk => hk.2.2
    nx := fun k o hx hk => by
      rcases hk.1 with h | h
      · exact F.nx k o hx h
      · have := (Array.getElem?_eq_some_iff.1 (K.x k o hx)).1; omega }⟩
  m := (fr.same _ (blk_lt K.m) F.nm).trans K.m
  f := (fr.same _ (blk_lt K.f) F.nf).trans K.f
  o := R_fr K.o fr F.no
  fr := Fr.down F.up K.fr fr
  g1 := K.g1
  g2 := K.g2
  x := fun k o hx => (fr.same k (Array.getElem?_eq_some_iff.1 (K.x k o hx)).1 (F.nx k o hx)).trans (K.x k o hx)
theorem Co.drawn (K : Co B X w W g bm b7 S0 st0 L l os vo outs) (hd : Drawn0 W W') : Co B X w W' g bm b7 S0 st0 L l os vo outs := by
  obtain ⟨S, C, F⟩ := K.c
  exact K.turn F ((C.drawn hd).more (fun k h => .inl h)) (Fr.of_drawn hd)
/-- A turn of what is not the memory's. -/
theorem Co.grown (K : Co B (fun _ _ => False) w W g bm b7 S0 st0 L l os vo outs) {vo' : Value} {outs' : List Int} (ho : (Kd.int .u64).R 56 W' w.heap.size (fun _ => True) vo' outs') (hg : W.grownBy W' vo.ownBlock)
    (hat : vo'.ownBlock = vo.ownBlock ∨ ∃ b, vo'.ownBlock = some b ∧ W.heap.size ≤ b) : Co B (fun _ _ => False) w W' g bm b7 S0 st0 L l os vo' outs' := by
  obtain ⟨S, C, F⟩ := K.c
  have fr : Fr (fun k => vo.ownBlock = some k) W W' := Fr.of_grown hg (fun k e => e)
  have ne : ∀ {k : Nat} {cs : Array Value} {t : TypeId}, W.heap[k]? = some (.cells cs t (0, 0)) → t ≠ 56 → ¬ vo.ownBlock = some k := fun hk ht e => by
    obtain ⟨cs, h⟩ := Kd.R_typed K.o _ e
    rw [hk] at h
    cases h
    exact ht rfl
  refine ⟨⟨S, C.keep fr (fun k hs hv => F.no k hv hs), ⟨F.up, F.nm, F.nf, fun k hv hs => ?_, fun k hs => Nat.lt_of_lt_of_le (F.lt k hs) fr.low.size, fun _ _ h => h.elim, fun k hs => (F.ce k hs).imp id (fun ⟨o, h1, h2⟩ => ⟨o, (fr.same k (F.lt k hs) (fun hv => F.no k hv hs)).trans h1, h2⟩)⟩⟩, (fr.same _ (blk_lt K.m) (ne K.m (by decide))).trans K.m, (fr.same _ (blk_lt K.f) (ne K.f (by decide))).trans K.f, ho, ?_, K.g1, K.g2, fun _ _ h => h.elim⟩
  · rcases hat with h | ⟨b, h, hb⟩
    · exact F.no k (h ▸ hv) hs
    · rw [h] at hv
      cases hv
      have := F.lt _ hs
      omega
  · exact Fr.down (S := fun k => vo.ownBlock = some k) (fun k hv => .inr (Kd.R_base K.o k hv)) K.fr fr
theorem Foot.keeps {S : Nat → Prop} (F : Foot B w W S0 S bm b7 vo X) (fr : Fr S W W') {B' : Nat} (hB : B ≤ B') : KeepsFrom B' W W' :=
  ⟨fr.low.size, fun k o hk ho hc => (fr.same k (Array.getElem?_eq_some_iff.1 ho).1 (fun hs => by
    rcases F.ce k hs with h | ⟨o', h1, h2⟩
    · omega
    · rw [ho] at h1
      cases h1
      rw [hc] at h2
      cases h2)).trans ho⟩
/-- The moved word of a root or a field. -/
theorem Co.moved (K : Co B X w W g bm b7 S0 st0 L l os vo outs) {x : Int} (hxr : 0 ≤ x ∧ x < 18446744073709551616) (hadd : add1 st0.f st0.os l x = some l2) (hp2 : l2 <+: L) :
    Calls Try.prog 51 #[.int .u64 x, .pointer (some ⟨bm, 0, none⟩)] W fun e W' => e = .returned (.int .u64 (cw st0.f2 st0.f st0.os L x)) ∧ Co B X w W' g bm b7 S0 st0 L l2 (os ++ (l2.drop l.length).map (obAt st0.f st0.os)) vo outs ∧ ∀ B', B ≤ B' → KeepsFrom B' W W' := by
  obtain ⟨S, C, F⟩ := K.c
  refine (moved_any C hxr hadd hp2 bm K.m F.nm).mono ?_
  rintro e W' ⟨he, C', fr⟩
  exact ⟨he, K.turn F C' fr, fun B' hB => F.keeps fr hB⟩
theorem Co.bel (K : Co B X w W g bm b7 S0 st0 L l os vo outs) : Fr S0 w W := K.fr
theorem Co.look (K : Co B X w W g bm b7 S0 st0 L l os vo outs) (i : Nat) (hi : i < os.length) :
    Calls Try.prog 34 #[.pointer (some ⟨g, 0, none⟩), .int .i64 (st0.f2 + (pos os i : Int))] W fun e w' => e = .returned (.tuple #[.int .i64 os[i].kind, .int .i64 os[i].fs.length, .int .i64 os[i].tag, .int .i64 0]) ∧ Drawn0 W w' := by
  obtain ⟨S, ⟨D, C⟩, F⟩ := K.c
  exact C.mem.mem.look i hi
theorem Co.load (K : Co B X w W g bm b7 S0 st0 L l os vo outs) (i j : Nat) (hi : i < os.length) (hj : j < os[i].fs.length) :
    Calls Try.prog 56 #[.pointer (some ⟨g, 0, none⟩), .int .i64 (st0.f2 + (pos os i : Int)), .int .i64 j] W fun e w' => e = .returned (.tuple #[.int .u64 (os[i].fs.getD j 0), .int .i64 0]) ∧ Drawn0 W w' := by
  obtain ⟨S, ⟨D, C⟩, F⟩ := K.c
  exact C.mem.mem.load i j hi hj
theorem Co.store (K : Co B X w W g bm b7 S0 st0 L l os vo outs) (i j : Nat) (v : Int) (hi : i < os.length) (hj : j < os[i].fs.length) (hv : 0 ≤ v ∧ v < 18446744073709551616) :
    Calls Try.prog 44 #[.pointer (some ⟨g, 0, none⟩), .int .i64 (st0.f2 + (pos os i : Int)), .int .i64 j, .int .u64 v] W fun e w' => e = .returned (.int .i64 0) ∧ Co B X w w' g bm b7 S0 st0 L l (putO os i j v) vo outs ∧ ∀ B', B ≤ B' → KeepsFrom B' W w' := by
  obtain ⟨S, ⟨D, C⟩, F⟩ := K.c
  refine (C.mem.store i j v hi hj hv).mono ?_
  rintro e W' ⟨he, hM, fr⟩
  exact ⟨he, K.turn F ⟨D, hM, C.isMap, C.yes, C.no, (lens_put os i j v).trans C.lens, C.pre, C.ord, C.size, C.half⟩ fr, fun B' hB => F.keeps fr hB⟩
theorem Co.fbound (K : Co B X w W g bm b7 S0 st0 L l os vo outs) : 1 ≤ st0.f2 ∧ st0.f2 ≤ 200000 ∧ (flat os).length ≤ 65536 ∧ (flat st0.os).length ≤ 65536 := by
  obtain ⟨S, ⟨D, C⟩, F⟩ := K.c
  obtain ⟨h1, h2, h3⟩ := C.mem.mem.fbound
  have hsz := C.size
  have hof : ((flat st0.os).length : Int) ≤ st0.size := by
    obtain ⟨vw, vh, ow, oh, mb, n, LL⟩ := C.mem.mem
    exact LL.ofit
  exact ⟨h1, h2, h3, by omega⟩
theorem Co.olen (K : Co B X w W g bm b7 S0 st0 L l os vo outs) : os.length = l.length := by
  obtain ⟨S, ⟨D, C⟩, F⟩ := K.c
  have := congrArg List.length C.lens
  simpa using this
theorem IsMem.lt (M : IsMem S w g st) : (64 ≤ st.size ∧ st.size ≤ 65536) ∧ (st.half = 0 ∨ st.half = 1) ∧ ((flat st.os).length : Int) ≤ st.size := by
  obtain ⟨vw, vh, ow, oh, mb, n, L⟩ := M
  exact ⟨L.sz, L.hf, L.fit⟩
set_option maxHeartbeats 1000000 in
theorem Co.start (hlt : ∀ k, S0 k → k < w.heap.size) (hL : Ord st0.f st0.os L) (hs : (64 ≤ st0.size ∧ st0.size ≤ 65536) ∧ (st0.half = 0 ∨ st0.half = 1)) {w2 w3 w4 : World} (h1 : Below (w.heap.size + 1) (w.alloc (.cells #[.pointer (some ⟨g, 0, none⟩)] 26)) w2)
    (M3 : IsMem (fun k => S0 k ∨ w2.heap.size ≤ k) w3 g st0.flip) (fr : Fr S0 w2 w3) (h4 : Below w3.heap.size w3 w4) (hbox : w4.heap[b7]? = some (.cells #[.nilFunc] 83 (0, 0))) (hb7 : b7 = w3.heap.size) :
    Co w3.heap.size (fun _ _ => False) w (w4.setCell ⟨b7, 0, none⟩ (.func (.func 51) #[] #[.pointer (some ⟨w.heap.size, 0, none⟩)])) g w.heap.size b7 S0 st0 L [] [] (.slice none 0 0) [] := by
  have hs2 : w.heap.size + 1 ≤ w2.heap.size := by have := h1.size; simpa using this
  have hs3 := fr.low.size
  have hs4 := h4.size
  have hm2 : w2.heap[w.heap.size]? = some (.cells #[.pointer (some ⟨g, 0, none⟩)] 26 (0, 0)) := (h1.block _ (Nat.lt_succ_self _)).trans (blk_new w _)
  have hnb : ¬ S0 w.heap.size := fun h => absurd (hlt _ h) (Nat.lt_irrefl _)
  have hm3 := (fr.same _ (by omega) hnb).trans hm2
  have hm4 := (h4.block _ (by omega)).trans hm3
  have fr5 : Fr (fun k => k = b7) w4 (w4.setCell ⟨b7, 0, none⟩ (.func (.func 51) #[] #[.pointer (some ⟨w.heap.size, 0, none⟩)])) := Fr.of_set w4 ⟨b7, 0, none⟩ _ rfl
  have M5 : IsAt w3.heap.size (fun k => (S0 k ∨ w2.heap.size ≤ k) ∧ k < w3.heap.size ∧ (k < w3.heap.size ∨ ∃ o : Obj, w3.heap[k]? = some o ∧ o.isCells = true)) (w4.setCell ⟨b7, 0, none⟩ (.func (.func 51) #[] #[.pointer (some ⟨w.heap.size, 0, none⟩)])) g st0.flip :=
    (((M3.at_ (Nat.le_refl _)).bound).keep (T := fun k => w3.heap.size ≤ k) (w' := w4) ⟨h4.mono (Nat.zero_le _), fun k hk _ => h4.block k hk⟩ (fun k h h2 => by omega)).keep fr5 (fun k h e => by omega)
  refine ⟨⟨_, ⟨.map [], M5, Maps.isMap_empty, fun p h => absurd h (Nat.not_lt_zero p), fun a _ => rfl, rfl, List.nil_prefix, hL, hs.1, hs.2⟩, ⟨?_, ?_, ?_, fun k hk => by simp [Value.ownBlock] at hk, ?_, fun _ _ h => h.elim, fun k h => .inl h.2.1⟩⟩, ?_, blk_put hbox 0 _ rfl, Kd.R_nil _ _ _ _ _, ?_, Nat.le_refl _, by omega, fun _ _ h => h.elim⟩
  · rintro k ⟨h | h, -, -⟩
    · exact .inl h
    · exact .inr (by omega)
  · rintro ⟨h | h, -, -⟩
    · exact hnb h
    · omega
  · rintro ⟨-, h, -⟩
    omega
  · rintro k ⟨-, h, -⟩
    rw [World.size_setCell]
    omega
  · exact (fr5.same _ (blk_lt hm4) (fun e => by omega)).trans hm4
  · refine ⟨⟨h4.os.trans (fr.low.os.trans h1.os), h4.tape.trans (fr.low.tape.trans h1.tape), h4.output.trans (fr.low.output.trans h1.output), by rw [World.size_setCell]; omega, fun k hk => absurd hk (Nat.not_lt_zero k)⟩, fun k hk hn => ?_⟩
    exact ((((fr5.same k (by omega) (fun e => by omega)).trans (h4.block k (by omega))).trans (fr.same k (by omega) hn)).trans (h1.block k (by omega))).trans ((below_alloc (Below.refl _ w) _).block k hk)
/-- A box beside. -/
theorem Co.box (K : Co B (fun _ _ => False) w W g bm b7 S0 st0 L l os vo outs) (o : Obj) : Co B (fun k o' => k = W.heap.size ∧ o' = o) w (W.alloc o) g bm b7 S0 st0 L l os vo outs := by
  obtain ⟨S, C, F⟩ := K.c
  have hb := below_alloc (Below.refl _ W) o
  refine ⟨⟨S, C.keep (T := fun _ => False) (Fr.of_below hb) (fun _ _ h => h), F.up, F.nm, F.nf, F.no, fun k hk => Nat.lt_of_lt_of_le (F.lt k hk) hb.size, fun k o' h hs => ?_, fun k hs => (F.ce k hs).imp id (fun ⟨o, h1, h2⟩ => ⟨o, (hb.block k (F.lt k hs)).trans h1, h2⟩)⟩, blk_alloc K.m _, blk_alloc K.f _, Kd.R_alloc K.o _, K.fr.trans (Fr.of_below hb), K.g1, K.g2, fun k o' h => ?_⟩
  · have := F.lt k hs
    omega
  · obtain ⟨rfl, rfl⟩ := h
    exact blk_new W _
/-- A range over a function writes its own records. -/
theorem Co.kept (K : Co B X w W g bm b7 S0 st0 L l os vo outs) {B' : Nat} {row : Option Nat} (hg : W.grownBy W' row) (h : ∀ r, row = some r → B' ≤ r ∧ ∃ o : Obj, W.heap[r]? = some o ∧ o.isCells = false) (hB : B ≤ B') (hw : w.heap.size ≤ B')
    (hX : ∀ k o, X k o → o.isCells = true) : Co B X w W' g bm b7 S0 st0 L l os vo outs := by
  obtain ⟨S, ⟨D, C⟩, F⟩ := K.c
  have fr : Fr (fun k => row = some k) W W' := Fr.of_grown hg (fun k e => e)
  have nc : ∀ {k : Nat} {o : Obj}, W.heap[k]? = some o → o.isCells = true → ¬ row = some k := fun hk ho e => by
    obtain ⟨-, o', h1, h2⟩ := h _ e
    rw [hk] at h1
    cases h1
    rw [ho] at h2
    cases h2
  have M' : IsAt B S W' g (cst st0 os D) := isAt_own (B := B) S g (fun (_ : Unit) => cst st0 os D) () W W' row C.mem hg (fun r e => ⟨Nat.le_trans hB (h r e).1, (h r e).2⟩)
  refine ⟨⟨S, ⟨D, M', C.isMap, C.yes, C.no, C.lens, C.pre, C.ord, C.size, C.half⟩, F.up, F.nm, F.nf, F.no, fun k hk => Nat.lt_of_lt_of_le (F.lt k hk) fr.low.size, F.nx, fun k hs => (F.ce k hs).imp id (fun ⟨o, h1, h2⟩ => ⟨o, (fr.same k (F.lt k hs) (nc h1 h2)).trans h1, h2⟩)⟩, (fr.same _ (blk_lt K.m) (nc K.m rfl)).trans K.m, (fr.same _ (blk_lt K.f) (nc K.f rfl)).trans K.f,
    R_fr K.o fr (fun k hk => ?_), Fr.down (S := fun k => row = some k) (fun k e => .inr (Nat.le_trans hw (h k e).1)) K.fr fr, K.g1, K.g2, fun k o hx => (fr.same k (Array.getElem?_eq_some_iff.1 (K.x k o hx)).1 (nc (K.x k o hx) (hX k o hx))).trans (K.x k o hx)⟩
  obtain ⟨cs, h1⟩ := Kd.R_typed K.o k hk
  exact nc h1 rfl
theorem Co.obj_ok (K : Co B X w W g bm b7 S0 st0 L l os vo outs) (i : Nat) (hi : i < os.length) : O.ok os[i] := by
  obtain ⟨S, ⟨D, C⟩, F⟩ := K.c
  exact C.mem.mem.obj_ok i hi
theorem Co.tag (K : Co B X w W g bm b7 S0 st0 L l os vo outs) (i : Nat) (hi : i < os.length) : ∃ q : Nat, os[i].tag = (q : Int) ∧ q ≤ os[i].fs.length ∧ os[i].fs.length ≤ 16384 := by
  obtain ⟨S, ⟨D, C⟩, F⟩ := K.c
  exact C.mem.mem.tag i hi
theorem cw_range (K : Co B X w W g bm b7 S0 st0 L l os vo outs) {x : Int} (hx : 0 ≤ x ∧ x < 18446744073709551616) (hL : Ord st0.f st0.os L) : 0 ≤ cw st0.f2 st0.f st0.os L x ∧ cw st0.f2 st0.f st0.os L x < 18446744073709551616 := by
  obtain ⟨h1, h2, h3, h4⟩ := K.fbound
  unfold cw
  split
  · exact hx
  · have h5 := ord_fit hL
    have h6 : pos (L.map (obAt st0.f st0.os)) (L.idxOf (x / 2)) ≤ (flat (L.map (obAt st0.f st0.os))).length := pos_mono _ _ (by rw [List.length_map]; exact List.idxOf_le_length)
    omega
end Go.Proofs.Ytjccaojlldkmpaa.Mem
/- gc.Collect, walked; a region within a round of a range over a function, by the walk that holds facts. -/
namespace Go.Proofs.Ytjccaojlldkmpaa.Rg
open Go.RowKit
set_option linter.unusedSimpArgs false
set_option linter.unusedVariables false
variable {P : Program} {ops : Array Oper} {Q : Exit → Act → World → Prop} {md : Region.Mode} {l n : Nat}
def noDefer (ops : Array Oper) : Bool := ops.all fun o => match o.op with
  | .defer _ => false
  | _ => true
theorem noDefer_spec (h : noDefer ops = true) (i : Nat) (o : Oper) (c : Call) (ho : ops[i]? = some o) : o.op ≠ .defer c := by
  intro e
  unfold noDefer at h
  rw [Array.all_eq_true] at h
  obtain ⟨hi, rfl⟩ := Array.getElem?_eq_some_iff.1 ho
  have := h i hi
  rw [e] at this
  cases this
theorem op_in (hd : noDefer ops = true) (hno : ¬ LetsOut Q) {i : Nat} {K : Act → World → Prop} {a : Act} {w : World} (h : wpOp P ops Q i K a w) : wpOpIn (Fence.wide.inRound l) n P ops Q i K a w := by
  unfold wpOp at h
  unfold wpOpIn
  cases ho : ops[i]? with
  | none => rw [ho] at h; exact h
  | some o =>
    rw [ho] at h
    simp only at h ⊢
    by_cases hw : Region.wanted o (yielded ops a.tmps) = true
    · rw [if_pos hw] at h ⊢
      rcases h with h | ⟨-, h⟩
      · refine ⟨fun _ _ => trivial, ?_⟩
        have e : o.semAt (Fence.wide.inRound l).round a.eval = execOp a.eval o := Oper.semAt_some l _ _ (fun c => noDefer_spec hd i o c ho)
        rw [e]
        unfold Oper.wp at h
        generalize (execOp a.eval o).run P w = r at h ⊢
        cases r with
        | ok x w' =>
          cases x <;> simp only [Oper.upon, Oper.uponIn] at h ⊢ <;>
            first
              | exact h
              | exact ⟨fun h0 => absurd h0 (by simp [Fence.wide, Fence.inRound]), CallsIn.inRound l (callsIn_wide.2 (h.mono (fun e w' he => by cases e <;> exact he)))⟩
              | exact ⟨fun h0 => absurd h0 (by simp [Fence.wide, Fence.inRound]), fun c cs _ => let ⟨v, w', r, s⟩ := h c cs; ⟨v, w', r, stepsIn_wide.2 s⟩⟩
        | halt x w' => cases x <;> simp only [Oper.upon, Oper.uponIn] at h ⊢ <;> exact h
      · exact absurd h hno
    · rw [if_neg hw] at h ⊢
      exact ⟨fun _ _ => trivial, h⟩
theorem any_in (hd : noDefer ops = true) (hno : ¬ LetsOut Q) : ∀ (fuel : Nat) (listed : Array Bool) (a : Act) (w : World), wpAny P md ops Q fuel listed a w → wpAnyIn (Fence.wide.inRound l) n P md ops Q fuel listed a w
  | 0, _, _, _, h => h
  | fuel + 1, _, _, _, h => ⟨h.1, fun i hi => wpOpIn_mono (fun a' w' h' => any_in hd hno fuel _ a' w' h') (op_in hd hno (h.2 i hi))⟩
theorem region_in {S : World → Prop} {id : Nat} {a : Act} {w : World} (hm : P.follows .mixedOrders = true) (hd : noDefer ops = true) (hno : ¬ LetsOut Q)
    (h : wpAnyH P .any ops Q S ops.size (Array.replicate ops.size false) a w.drew) : (Code.region id ops true).wpIn (Fence.wide.inRound l) n P Q a w :=
  wpIn_region_any hm (any_in hd hno _ _ _ _ (wpAny_of_held _ _ _ _ h))
end Go.Proofs.Ytjccaojlldkmpaa.Rg

namespace Go.Proofs.Ytjccaojlldkmpaa.Mem
open Go.RowKit Go.Proofs.YtjccaojlldkmpaaW.PrintWords Go.Proofs.YtjccaojlldkmpaaW.PrintLast Go.Proofs.YtjccaojlldkmpaaW.PrintMore
open Hf (rightB hdr headOf partsOf)
open Rg
set_option linter.unusedSimpArgs false
set_option linter.unusedVariables false
set_option maxRecDepth 100000
variable {S : Nat → Prop} {w W W' w' : World} {g n : Nat} {st : St}
variable {bm b7 : Nat} {S0 : Nat → Prop} {st0 : St} {L l l2 : List Int} {os os2 : List O} {vo : Value} {outs : List Int}
/-- What the closure and the memory are read from. -/
def Two (g bm b7 : Nat) (W : World) : Prop := W.cell? ⟨bm, 0, none⟩ = some (.pointer (some ⟨g, 0, none⟩)) ∧ W.cell? ⟨b7, 0, none⟩ = some (.func (.func 51) #[] #[.pointer (some ⟨bm, 0, none⟩)])
theorem Co.two {X : Nat → Obj → Prop} {B : Nat} (K : Co B X w W g bm b7 S0 st0 L l os vo outs) : Two g bm b7 W := ⟨(blk_cell K.m 0).trans rfl, (blk_cell K.f 0).trans rfl⟩
/-- Behind a collection that went well. -/
def Collected (w : World) (g : Nat) (S0 : Nat → Prop) (st0 : St) (L : List Int) (xs : List Int) (e : Ending) (W : World) : Prop :=
  ∃ S B d D, e = .returned (.tuple #[.slice B xs.length d, .int .i64 0]) ∧ IsMem S W g (cst st0 (L.map fun a => mapO (cw st0.f2 st0.f st0.os L) (obAt st0.f st0.os a).tag.toNat (obAt st0.f st0.os a)) D) ∧
    (∀ k, S k → S0 k ∨ w.heap.size ≤ k) ∧ (∀ k, S k → k < W.heap.size) ∧ (∀ k, (Value.slice B xs.length d).ownBlock = some k → ¬ S k) ∧
    (Kd.int .u64).R 56 W w.heap.size (fun _ => True) (.slice B xs.length d) (xs.map (cw st0.f2 st0.f st0.os L)) ∧ Fr S0 w W
theorem run_store_func {P : Program} {a : Addr} {m : Mode} (f : Fn) (x y : Array Value) : (store a (.func f x y) m).run P w = stored P w a (.func f x y) m := run_store P w a _ m rfl
attribute [local go_sem] Oper.semAt_some run_store_func
set_option maxHeartbeats 8000000 in
theorem collect_any (M : IsMem S0 w g st0) (hlt : ∀ k, S0 k → k < w.heap.size) (A : Option Addr) (c : Nat) (xs : List Int) (hC : Kd.C (Kd.int .u64) w A xs.length xs) (hx : ∀ x ∈ xs, 0 ≤ x ∧ x < 18446744073709551616) (hxl : xs.length ≤ 1000)
    (hA : ∀ ad, A = some ad → ¬ S0 ad.block ∧ ad.block < w.heap.size) (hL : walkP st0.f st0.os xs = (L, true)) :
    Calls Try.prog 19 #[.pointer (some ⟨g, 0, none⟩), .slice A xs.length c] w (Collected w g S0 st0 L xs) := by
  have hu83 := Try.underlying83
  have hCh : ∀ W, Below w.heap.size w W → _ := fun W hb => check_any (M.below hb) A c xs (Kd.C_below hC hb) hx (by omega)
  rw [hL] at hCh
  refine (callsIn_wide (n := 5)).1 (callsIn_of_wp_marks Try.func19 rfl trivial ?_ rfl)
  simp only [Try.ntmps19, List.size_toArray, List.length_cons, List.length_nil, Nat.reduceAdd, Nat.reduceSub, Array.replicate_succ, Array.replicate_zero, List.push_toArray, List.append_toArray, List.nil_append, List.cons_append]
  refine wpIn_wide.2 ?_
  go_wp2_with (first
    | (go_at_call 26; (with_reducible refine (hCh _ (below_alloc (Below.refl _ _) _)).mono ?_); clear hCh; rintro e w2 ⟨rfl, hb2⟩
       rw [World.size_alloc] at hb2
       have hbw := below_step (below_alloc (Below.refl _ w) (.cells #[.pointer (some ⟨g, 0, none⟩)] 26)) (by rw [World.size_alloc]; exact hb2)
       have M2 := M.below hbw
       have hF := M2.flip
       have hcm : w2.cell? ⟨w.heap.size, 0, none⟩ = some (.pointer (some ⟨g, 0, none⟩)) := (blk_cell ((hb2.block _ (Nat.lt_succ_self _)).trans (blk_new w _)) 0).trans rfl)
    | (go_at_call 50; (with_reducible refine hF.mono ?_); clear hF; rintro e w3 ⟨rfl, M3, fr3⟩)
    | ((with_reducible refine gate_dst (N := 7) rfl ?_); refine box_event ?hg (N := 7) ?hd (cs := #[.nilFunc]) (t := 83) ?hr ?_; (case hd => rfl); (case hg => rfl); (case hr => first | (go_simp; done) | (go_simp; rfl)); intro b7 hb7 w4 hbox hb4; have H7 := Aside0.mk hb7; clear hb7; have hc7 : w4.cell? ⟨b7, 0, none⟩ = some .nilFunc := (blk_cell hbox 0).trans rfl; have hf7 := blk_frozen hbox 0))
  have hOL : Ord st0.f st0.os L := by have := Ord.walkP st0.f st0.os xs; rw [hL] at this; exact this
  obtain ⟨hs1, hs2, hs3⟩ := M.lt
  have K0 := Co.start hlt hOL ⟨hs1, hs2⟩ hb2 M3 fr3 hb4 hbox H7.out
  obtain ⟨hx2, hO0, hIt, hItL⟩ := walk_run hL
  have hpreL : (addP st0.f st0.os [] xs).1 <+: L := by
    have := it_pre hO0 0 L.length
    rw [Nat.zero_add, hItL] at this
    exact this
  clear hb2 M3 fr3 hb4 hbox hc7 hf7 hcm hbw M2 hu83
  generalize hw5 : w4.setCell ⟨b7, 0, none⟩ (.func (.func 51) #[] #[.pointer (some ⟨w.heap.size, 0, none⟩)]) = w5 at K0 ⊢
  clear hw5
  generalize hbm : w.heap.size = bm at K0 ⊢
  have hB7 : w3.heap.size ≤ b7 := Nat.le_of_eq H7.out.symm
  generalize w3.heap.size = B0 at K0 hB7
  go_loopw [8, 30] (fun v i wr => ∃ k : Nat, k ≤ xs.length ∧ i = .int .i64 (k : Int) ∧ Co B0 (fun _ _ => False) w wr g bm b7 S0 st0 L (addP st0.f st0.os [] (xs.take k)).1 ((addP st0.f st0.os [] (xs.take k)).1.map (obAt st0.f st0.os)) v ((xs.take k).map (cw st0.f2 st0.f st0.os L))) (fun _ i _ => xs.length - (intOf i).toNat)
  case atStart => exact ⟨0, Nat.zero_le _, rfl, K0⟩
  case round =>
    clear K0
    obtain ⟨k, hk, rfl, K⟩ := hrel
    obtain ⟨Av, cv, rfl⟩ := Kd.R_slice K.o
    by_cases hk1 : k < xs.length
    · have t1 : decide ((k : Int) < (xs.length : Int)) = true := decide_eq_true (by omega)
      have hCr := C_fr hC K.fr (fun ad h => (hA ad h).1)
      obtain ⟨ad, rfl, hrd⟩ := Kd.at_int hCr (k : Int) (by omega) (by omega)
      rw [Int.toNat_natCast] at hrd
      have t0 : decide (0 ≤ (k : Int)) = true := decide_eq_true (by omega)
      have hrx : rd xs (k : Int) = xs[k] := by simp [rd, List.getD, hk1]
      have hadd := addP_round (f := st0.f) (os := st0.os) [] xs k hk1 hx2
      have hpre2 := (addP_pre [] xs (k + 1) (Ord.nil st0.f st0.os) hx2).trans hpreL
      have hlen : ((xs.take k).map (cw st0.f2 st0.f st0.os L)).length = k := by rw [List.length_map, List.length_take]; omega
      rw [hlen] at K ⊢
      have hMv := K.moved (hx _ (List.getElem_mem hk1)) hadd hpre2
      rw [← hrx] at hMv
      have hcf : wr.cell? ⟨b7, 0, none⟩ = some (.func (.func 51) #[] #[.pointer (some ⟨bm, 0, none⟩)]) := (blk_cell K.f 0).trans rfl
      obtain ⟨y, hY⟩ : ∃ y, cw st0.f2 st0.f st0.os L (rd xs (k : Int)) = y := ⟨_, rfl⟩
      rw [hY] at hMv
      have hY' := Aside0.mk hY
      have hrx' := Aside0.mk hrx
      have hlen' := Aside0.mk hlen
      clear hadd hCr hY hrx hlen
      go_wp2_with (first
        | (go_at_call 51; (with_reducible refine hMv.mono ?_); clear hMv; rintro e w6 ⟨rfl, K6, -⟩)
        | ((with_reducible refine gate_builtin (b := .append) (xs := #[.tmp 34, .tmp 38]) rfl ?_); at_builtin; refine Kd.R_append (Kd.int .u64) (w0 := w6) w.heap.size rfl (.tmp 34) (.tmp 38) 32 56 (.int .u64 0) 8 rfl Try.underlying32 info22 rfl (by decide) (by omega) (.slice Av k cv) ((xs.take k).map (cw st0.f2 st0.f st0.os L)) y [.int .u64 y] (fun _ => True) (fun _ => False) rfl rfl rfl (fun _ hk => hk.elim) (fun _ _ => trivial) K6.o (Below.refl _ _) K6.fr.low.size (by rw [hlen'.out]; omega) ?_; intro v7 w7 ho7 hb7' hg7 hat7
           have K7 := K6.grown ho7 hg7 hat7))
      go_roundw
      case rel =>
        refine ⟨k + 1, by omega, by simp, ?_⟩
        have e2 : (addP st0.f st0.os [] (xs.take k)).1 ++ ((addP st0.f st0.os [] (xs.take (k + 1))).1.drop (addP st0.f st0.os [] (xs.take k)).1.length) = (addP st0.f st0.os [] (xs.take (k + 1))).1 := by
          obtain ⟨t, e⟩ := (addP_pre2 (f := st0.f) (os := st0.os) [] xs k (Ord.nil _ _) hx2)
          rw [← e, List.drop_left]
        have e3 : (xs.take (k + 1)).map (cw st0.f2 st0.f st0.os L) = (xs.take k).map (cw st0.f2 st0.f st0.os L) ++ [y] := by
          rw [List.take_succ_eq_append_getElem hk1, List.map_append, List.map_cons, List.map_nil, ← hrx'.out, hY'.out]
        rw [← List.map_append, e2] at K7
        rw [e3]
        exact K7
      case measure => simp [intOf]; omega
    · obtain rfl : k = xs.length := by omega
      have t1 : decide (((xs.length : Nat) : Int) < (xs.length : Int)) = false := decide_eq_false (by omega)
      rw [List.take_length] at K ⊢
      have hcm : wr.cell? ⟨bm, 0, none⟩ = some (.pointer (some ⟨g, 0, none⟩)) := (blk_cell K.m 0).trans rfl
      have KB := K.box (.cells #[.pointer (some ⟨g, 0, none⟩)] 26)
      have hB0 : B0 ≤ wr.heap.size := by
        have := blk_lt K.f
        omega
      have hlm : (xs.map (cw st0.f2 st0.f st0.os L)).length = xs.length := List.length_map _
      rw [hlm] at KB
      go_wp2_with (first | (go_at_call 31; (with_reducible refine (objects_any _ _).mono ?_); rintro e w6 ⟨rfl, rfl⟩))
      clear hcm t1 K
      obtain ⟨Bx, hBx⟩ : ∃ Bx, wr.heap.size = Bx := ⟨_, rfl⟩
      have hsz6 : (wr.alloc (.cells #[.pointer (some ⟨g, 0, none⟩)] 26)).heap.size = Bx + 1 := by rw [World.size_alloc, hBx]
      rw [hBx] at KB hB0 ⊢
      generalize wr.alloc (.cells #[.pointer (some ⟨g, 0, none⟩)] 26) = w6 at KB hsz6 ⊢
      clear hBx
      refine (wpIn_wide (n := 5)).1 ?_
      refine' range_all (F := Fence.wide) (n := 5) rfl (by omega) (gf := 66) (lb := #[.pointer (some ⟨Bx, 0, none⟩)]) rfl trivial (enters_of Try.func66 (by kernel_rfl) rfl)
        (encs := fun k => #[.int .i64 (st0.f2 + (pos (stg (cw st0.f2 st0.f st0.os L) st0.f st0.os (it st0.f st0.os (addP st0.f st0.os [] xs).1 k) k 0) k : Int))]) (N := L.length)
        (fun k W => Co B0 (fun k o' => k = Bx ∧ o' = .cells #[.pointer (some ⟨g, 0, none⟩)] 26) w W g bm b7 S0 st0 L (it st0.f st0.os (addP st0.f st0.os [] xs).1 k) (stg (cw st0.f2 st0.f st0.os L) st0.f st0.os (it st0.f st0.os (addP st0.f st0.os [] xs).1 k) k 0) (.slice Av xs.length cv) (xs.map (cw st0.f2 st0.f st0.os L)))
        (w0 := w6) (objs_feeds (g := g) Fence.wide (5 - 1) trivial rfl (by omega) Bx L.length (fun k => cst st0 (stg (cw st0.f2 st0.f st0.os L) st0.f st0.os (it st0.f st0.os (addP st0.f st0.os [] xs).1 k) k 0) (.map [])) _ w6 ?hI ?hlt ?hN) (Below.refl _ _) (fun _ => rfl) ?own ?h0 _ ?assign ?body ?done
      case hI =>
        intro k W _ KK
        refine ⟨KK.x Bx _ ⟨rfl, rfl⟩, ?_⟩
        obtain ⟨S, ⟨D, C⟩, F⟩ := KK.c
        exact ⟨S, D, C.mem.mem⟩
      case hlt =>
        intro k hk
        show k < (stg _ _ _ _ _ _).length
        rw [stg_length]
        exact (hIt k hk).1
      case hN =>
        show (stg _ _ _ _ _ _).length = _
        rw [stg_length, hItL]
      case own =>
        intro k W W' row KK hg hr
        exact KK.kept hg hr (by omega) KB.fr.low.size (fun _ o h => by rw [h.2]; rfl)
      case h0 =>
        show Co _ _ _ _ _ _ _ _ _ _ _ (stg (cw st0.f2 st0.f st0.os L) st0.f st0.os (addP st0.f st0.os [] xs).1 0 0) _ _
        rw [stg_zero]
        exact KB
      case assign =>
        intro l k W K' hK
        gi_wp2
        exact hK
      case body =>
        intro l k W KK hk
        obtain ⟨hkl, hok⟩ := hIt k hk
        have hnx := it_pre hO0 (k + 1) (L.length - (k + 1))
        rw [show k + 1 + (L.length - (k + 1)) = L.length by omega, hItL, it_succ] at hnx
        have hOk := it_ord hO0 k
        generalize hlk : it st0.f st0.os (addP st0.f st0.os [] xs).1 k = lk at KK hkl hok hnx hOk ⊢
        have hgd : lk.getD k 0 = lk[k] := by simp [List.getD, hkl]
        rw [hgd] at hok hnx
        obtain ⟨o, hO⟩ : ∃ o, obAt st0.f st0.os lk[k] = o := ⟨_, rfl⟩
        have hts := tg_obAt st0.f st0.os lk[k] (hOk.sub _ (List.getElem_mem hkl))
        rw [hO] at hts
        have hk0 : k < (stg (cw st0.f2 st0.f st0.os L) st0.f st0.os lk k 0).length := by rw [stg_length]; exact hkl
        have hat := stg_at (f := st0.f) (os := st0.os) (cw st0.f2 st0.f st0.os L) lk k 0 hkl hk0
        rw [hO, mapO_zero] at hat
        have hLook := KK.look k hk0
        rw [hat] at hLook
        obtain ⟨q, hq, hq1, hq2⟩ : ∃ q : Nat, o.tag = (q : Int) ∧ q ≤ o.fs.length ∧ o.fs.length ≤ 16384 := by
          have h := KK.tag k hk0
          rw [hat] at h
          exact h
        have hrange : ∀ x ∈ o.fs, 0 ≤ x ∧ x < 18446744073709551616 := by
          have h := (KK.obj_ok k hk0).2
          rw [hat] at h
          exact h
        rw [hq, Int.toNat_natCast] at hts
        rw [hts] at hok hnx
        have hposk : ∀ (l2 : List Int) (j : Nat), lk <+: l2 → pos (stg (cw st0.f2 st0.f st0.os L) st0.f st0.os l2 k j) k = pos (stg (cw st0.f2 st0.f st0.os L) st0.f st0.os lk k 0) k := fun l2 j h => by
          rw [stg_pos, stg_pos, pos_map_pre _ h _ (by omega)]
        obtain ⟨a, hA⟩ : ∃ a, st0.f2 + (pos (stg (cw st0.f2 st0.f st0.os L) st0.f st0.os lk k 0) k : Int) = a := ⟨_, rfl⟩
        rw [hA, hq] at hLook
        have hcm : W.cell? ⟨bm, 0, none⟩ = some (.pointer (some ⟨g, 0, none⟩)) := (blk_cell KK.m 0).trans rfl
        have hKF0 : KeepsFrom w6.heap.size W W := KeepsFrom.refl _ _
        have hAA := Aside0.mk hA
        have hQQ := Aside0.mk hq
        have hLK := Aside0.mk hlk
        have hOO := Aside0.mk hO
        have hGG := Aside0.mk hgd
        have hTT := Aside0.mk hat
        clear hA hq hlk hO hgd hat
        gi_wp2_with fail
        rw [hAA.out]
        refine ⟨trivial, (CallsIn.inRound l ((callsIn_wide (n := 2)).2 hLook)).mono ?_⟩
        clear hLook
        rintro e w7 ⟨rfl, hd7⟩
        have K7 := KK.drawn hd7
        have hKF7 : KeepsFrom w6.heap.size W w7 := by
          obtain ⟨m7, rfl⟩ := hd7
          exact ⟨Nat.le_refl _, fun k o _ h _ => h⟩
        clear KK hcm hKF0 hd7
        obtain ⟨ts, hTS⟩ : ∃ ts, o.fs.take q = ts := ⟨_, rfl⟩
        rw [hTS] at hok hnx hts
        have htl : ts.length = q := by rw [← hTS, List.length_take]; omega
        gi_wp2_with fail
        gi_loopw [53] (fun jv wr => ∃ j : Nat, jv = .int .i64 (j : Int) ∧ j ≤ q ∧ Co B0 (fun k o' => k = Bx ∧ o' = .cells #[.pointer (some ⟨g, 0, none⟩)] 26) w wr g bm b7 S0 st0 L (addP st0.f st0.os lk (ts.take j)).1 (stg (cw st0.f2 st0.f st0.os L) st0.f st0.os (addP st0.f st0.os lk (ts.take j)).1 k j) (.slice Av xs.length cv) (xs.map (cw st0.f2 st0.f st0.os L)) ∧ KeepsFrom w6.heap.size W wr) (fun jv _ => q - (intOf jv).toNat)
        case atStart => exact ⟨0, rfl, Nat.zero_le _, K7, hKF7⟩
        case round =>
          clear K7 hKF7
          obtain ⟨j, rfl, hjq, K, hKF⟩ := hrel
          by_cases hj : j < q
          · have t1 : decide ((j : Int) < (q : Int)) = true := decide_eq_true (by omega)
            have hjt : j < ts.length := by omega
            have hadd := addP_round (f := st0.f) (os := st0.os) lk ts j hjt hok
            have hpj := (hOk.addP (ts.take j)).2
            have hp2 := (addP_pre lk ts (j + 1) hOk hok).trans hnx
            have hp12 := addP_pre2 lk ts j hOk hok
            generalize hlj2 : (addP st0.f st0.os lk (ts.take (j + 1))).1 = lj2 at hadd hp2 hp12
            have hLJ2 := Aside0.mk hlj2
            clear hlj2
            have htx : ts[j] = o.fs.getD j 0 := by
              have : (o.fs.take q)[j]'(by rw [List.length_take]; omega) = o.fs[j] := List.getElem_take
              simp [← hTS, List.getD, show j < o.fs.length by omega]
            generalize hlj : (addP st0.f st0.os lk (ts.take j)).1 = lj at K hadd hpj hp12
            have hkj : k < lj.length := Nat.lt_of_lt_of_le hkl hpj.length_le
            have hkj2 : k < lj2.length := Nat.lt_of_lt_of_le hkj hp12.length_le
            have hob : obAt st0.f st0.os lj[k] = o := by rw [prefix_get hpj k hkl hkj, hOO.out]
            have hob2 : obAt st0.f st0.os lj2[k] = o := by rw [prefix_get hp12 k hkj hkj2, hob]
            have hsk : k < (stg (cw st0.f2 st0.f st0.os L) st0.f st0.os lj k j).length := by rw [stg_length]; exact hkj
            have hsat := stg_at (f := st0.f) (os := st0.os) (cw st0.f2 st0.f st0.os L) lj k j hkj hsk
            rw [hob] at hsat
            have hjo : j < o.fs.length := by omega
            have hLd := K.load k j hsk (by rw [hsat, mapO_len]; exact hjo)
            rw [hsat, mapO_rest _ _ _ hjo, hposk lj j hpj, hAA.out, ← htx] at hLd
            have hxr := hrange (o.fs.getD j 0) (getD_mem hjo)
            rw [← htx] at hxr
            have hcm : wr.cell? ⟨bm, 0, none⟩ = some (.pointer (some ⟨g, 0, none⟩)) := (blk_cell K.m 0).trans rfl
            obtain ⟨x, hX⟩ : ∃ x, ts[j] = x := ⟨_, rfl⟩
            rw [hX] at hLd hxr hadd
            have hXX := Aside0.mk (htx.symm.trans hX)
            have hSS := Aside0.mk hsat
            have hBB := Aside0.mk hob
            have hBB2 := Aside0.mk hob2
            have hLJ := Aside0.mk hlj
            clear hX htx hsat hob hob2 hlj
            gi_wp2_with fail
            refine ⟨trivial, (CallsIn.inRound l ((callsIn_wide (n := 2)).2 hLd)).mono ?_⟩
            clear hLd
            rintro e w8 ⟨rfl, hd8⟩
            have K8 := K.drawn hd8
            have hKF8 : KeepsFrom w6.heap.size W w8 := by
              obtain ⟨m8, rfl⟩ := hd8
              exact ⟨hKF.size, hKF.same⟩
            clear K hcm hd8 hKF
            gi_wp2_with fail
            have hcm8 : w8.cell? ⟨bm, 0, none⟩ = some (.pointer (some ⟨g, 0, none⟩)) := (blk_cell K8.m 0).trans rfl
            have hcf8 : w8.cell? ⟨b7, 0, none⟩ = some (.func (.func 51) #[] #[.pointer (some ⟨bm, 0, none⟩)]) := (blk_cell K8.f 0).trans rfl
            have K8d := K8.drawn (W' := w8.drew) ⟨1, rfl⟩
            have hcm8d : w8.drew.cell? ⟨bm, 0, none⟩ = some (.pointer (some ⟨g, 0, none⟩)) := hcm8
            have hcf8d : w8.drew.cell? ⟨b7, 0, none⟩ = some (.func (.func 51) #[] #[.pointer (some ⟨bm, 0, none⟩)]) := hcf8
            have hMv := K8d.moved hxr hadd hp2
            rw [stg_ext (cw st0.f2 st0.f st0.os L) hp12 k j hkj] at hMv
            obtain ⟨y, hYY⟩ : ∃ y, cw st0.f2 st0.f st0.os L x = y := ⟨_, rfl⟩
            have hyr := cw_range K8d hxr hOL
            rw [hYY] at hMv hyr
            have hY0 := Aside0.mk hYY
            clear hYY
            have hSt : ∀ W9, Co B0 (fun k o' => k = Bx ∧ o' = .cells #[.pointer (some ⟨g, 0, none⟩)] 26) w W9 g bm b7 S0 st0 L lj2 (stg (cw st0.f2 st0.f st0.os L) st0.f st0.os lj2 k j) (.slice Av xs.length cv) (xs.map (cw st0.f2 st0.f st0.os L)) →
                Calls Try.prog 44 #[.pointer (some ⟨g, 0, none⟩), .int .i64 a, .int .i64 (j : Int), .int .u64 y] W9 fun e w' => e = .returned (.int .i64 0) ∧ Co B0 (fun k o' => k = Bx ∧ o' = .cells #[.pointer (some ⟨g, 0, none⟩)] 26) w w' g bm b7 S0 st0 L lj2 (stg (cw st0.f2 st0.f st0.os L) st0.f st0.os lj2 k (j + 1)) (.slice Av xs.length cv) (xs.map (cw st0.f2 st0.f st0.os L)) ∧ ∀ B', B0 ≤ B' → KeepsFrom B' W9 w' := by
              intro W9 K9
              have hsk2 : k < (stg (cw st0.f2 st0.f st0.os L) st0.f st0.os lj2 k j).length := by rw [stg_length]; exact hkj2
              have hsat2 := stg_at (f := st0.f) (os := st0.os) (cw st0.f2 st0.f st0.os L) lj2 k j hkj2 hsk2
              rw [hBB2.out] at hsat2
              have h := K9.store k j y hsk2 (by rw [hsat2, mapO_len]; exact hjo) hyr
              rw [hposk lj2 j (hpj.trans hp12), hAA.out] at h
              have hp := stg_put (cw st0.f2 st0.f st0.os L) st0.f st0.os lj2 k j hkj2 (by rw [hBB2.out]; exact hjo)
              rw [hBB2.out, hXX.out, hY0.out] at hp
              rw [hp] at h
              exact h
            have hTwo := K8d.two
            refine region_in (S := Two g bm b7) (by kernel_rfl) (by kernel_rfl) ?hno ?go
            case hno => rintro ⟨_, _, h⟩; exact h
            case go =>
            refine wpAnyH_take (i := 0) (oi := { dst := some 63, op := .load 26 (.tmp 2), type := 26, pos := "gc.go:109", after := #[], guard := none }) (v := .pointer (some ⟨g, 0, none⟩)) rfl (by kernel_rfl) (by kernel_rfl) (by kernel_rfl) (fun _ _ _ h => h) (Or.inl ⟨by rfl, ?_⟩) hTwo ?_
            · rintro W9 ⟨h1, h2⟩
              go_simp
            try simp only [Act.put, List.setIfInBounds_toArray, List.set_cons_zero, List.set_cons_succ]
            refine wpAnyH_take (i := 1) (oi := { dst := some 64, op := .move (.tmp 11), type := 3, pos := "gc.go:109", after := #[], guard := none }) (v := .int .i64 a) rfl (by kernel_rfl) (by kernel_rfl) (by kernel_rfl) (fun _ _ _ h => h) (Or.inl ⟨by rfl, ?_⟩) hTwo ?_
            · rintro W9 ⟨h1, h2⟩
              go_simp
            try simp only [Act.put, List.setIfInBounds_toArray, List.set_cons_zero, List.set_cons_succ]
            refine wpAnyH_take (i := 2) (oi := { dst := some 65, op := .move (.tmp 16), type := 3, pos := "gc.go:109", after := #[], guard := none }) (v := .int .i64 (j : Int)) rfl (by kernel_rfl) (by kernel_rfl) (by kernel_rfl) (fun _ _ _ h => h) (Or.inl ⟨by rfl, ?_⟩) hTwo ?_
            · rintro W9 ⟨h1, h2⟩
              go_simp
            try simp only [Act.put, List.setIfInBounds_toArray, List.set_cons_zero, List.set_cons_succ]
            refine wpAnyH_take (i := 3) (oi := { dst := some 66, op := .load 83 (.tmp 7), type := 83, pos := "gc.go:109", after := #[], guard := none }) (v := .func (.func 51) #[] #[.pointer (some ⟨bm, 0, none⟩)]) rfl (by kernel_rfl) (by kernel_rfl) (by kernel_rfl) (fun _ _ _ h => h) (Or.inl ⟨by rfl, ?_⟩) hTwo ?_
            · rintro W9 ⟨h1, h2⟩
              go_simp
            try simp only [Act.put, List.setIfInBounds_toArray, List.set_cons_zero, List.set_cons_succ]
            refine wpAnyH_take (i := 4) (oi := { dst := some 67, op := .move (.tmp 17), type := 56, pos := "gc.go:109", after := #[], guard := none }) (v := .int .u64 x) rfl (by kernel_rfl) (by kernel_rfl) (by kernel_rfl) (fun _ _ _ h => h) (Or.inl ⟨by rfl, ?_⟩) hTwo ?_
            · rintro W9 ⟨h1, h2⟩
              go_simp
            try simp only [Act.put, List.setIfInBounds_toArray, List.set_cons_zero, List.set_cons_succ]
            refine wpAnyH_ready (rs := [5]) (by kernel_rfl) (by simp) (AllReadyH.cons (o := { dst := some 68, op := .call { callee := .value (.tmp 66), args := #[.tmp 67], argTypes := #[56] }, type := 56, pos := "gc.go:109", after := #[{ on := 3, ground := .data }, { on := 4, ground := .data }], guard := none }) rfl (fun K' hK' => ?_) AllReadyH.nil)
            go_simp
            refine hMv.mono ?_
            rintro e w9 ⟨rfl, K9, hK9⟩
            refine hK'.out _ _ K9.two (fun hTwo9 => ?_)
            try simp only [Act.put, List.setIfInBounds_toArray, List.set_cons_zero, List.set_cons_succ]
            refine wpAnyH_ready (rs := [6]) (by kernel_rfl) (by simp) (AllReadyH.cons (o := { dst := some 69, op := .call { callee := .value (.func 44), args := #[.tmp 63, .tmp 64, .tmp 65, .tmp 68], argTypes := #[26, 3, 3, 56] }, type := 35, pos := "gc.go:109", after := #[{ on := 0, ground := .data }, { on := 1, ground := .data }, { on := 2, ground := .data }, { on := 5, ground := .data }, { on := 5, ground := .chain }], guard := none }) rfl (fun K'' hK'' => ?_) AllReadyH.nil)
            go_simp
            refine (hSt _ K9).mono ?_
            rintro e w10 ⟨rfl, K10, hK10⟩
            refine hK''.out _ _ K10.two (fun hTwo10 => ?_)
            try simp only [Act.put, List.setIfInBounds_toArray, List.set_cons_zero, List.set_cons_succ]
            refine wpAnyH_done (by kernel_rfl) ?_ _
            have hBS : B0 ≤ w6.heap.size := by omega
            have hKF10 : KeepsFrom w6.heap.size W w10 := ((hKF8.trans (Z := w8.drew) ⟨Nat.le_refl _, fun k o _ h _ => h⟩).trans (hK9 _ hBS)).trans (hK10 _ hBS)
            clear hTwo hTwo9 hTwo10 hK9 hK10 K9 K8 K8d hcm8 hcf8 hcm8d hcf8d hSt hMv hK'' hK'
            gi_wp2_with fail
            go_roundw
            case rel => exact ⟨j + 1, by simp, by omega, by rw [hLJ2.out]; exact K10, hKF10⟩
            case measure => simp [intOf]; omega
          · obtain rfl : j = q := by omega
            have t1 : decide ((j : Int) < (j : Int)) = false := decide_eq_false (by omega)
            gi_wp2_with fail
            refine ⟨hKF, ?_⟩
            have e1 : it st0.f st0.os (addP st0.f st0.os [] xs).1 (k + 1) = (addP st0.f st0.os lk ts).1 := by
              rw [it_succ, hLK.out, hGG.out, hts]
            show Co _ _ _ _ _ _ _ _ _ _ (it st0.f st0.os (addP st0.f st0.os [] xs).1 (k + 1)) (stg (cw st0.f2 st0.f st0.os L) st0.f st0.os (it st0.f st0.os (addP st0.f st0.os [] xs).1 (k + 1)) (k + 1) 0) _ _
            rw [e1]
            rw [show ts.take j = ts by rw [← htl, List.take_length]] at K
            have hpl := (hOk.addP ts).2
            have hkl2 : k < (addP st0.f st0.os lk ts).1.length := Nat.lt_of_lt_of_le hkl hpl.length_le
            have hdn := stg_done (cw st0.f2 st0.f st0.os L) st0.f st0.os (addP st0.f st0.os lk ts).1 k hkl2
            rw [prefix_get hpl k hkl hkl2, hOO.out, hQQ.out, Int.toNat_natCast] at hdn
            rw [← hdn]
            exact K
      case done =>
        intro D W hD KK hdf
        rw [hItL, stg_full] at KK
        go_wp2_with fail
        refine ⟨by simp, .inl ⟨_, _, rfl, run_takeDeferred hdf, ?_⟩⟩
        have KE := KK.kept (grownBy_putObj' W D (.deferred none)) (B' := w6.heap.size) (fun r e => by cases e; exact ⟨hD, _, hdf, rfl⟩) (by omega) KB.fr.low.size (fun _ o h => by rw [h.2]; rfl)
        obtain ⟨S, ⟨DD, C⟩, F⟩ := KE.c
        exact ⟨_, results_tmp2 rfl _ _ _, S, Av, cv, DD, rfl, C.mem.mem, F.up, F.lt, F.no, KE.o, KE.fr⟩
end Go.Proofs.Ytjccaojlldkmpaa.Mem
/- gc.Live; gc.Collect where nothing goes. -/
namespace Go.Proofs.Ytjccaojlldkmpaa.Mem
open Go.RowKit Go.Proofs.YtjccaojlldkmpaaW.PrintWords Go.Proofs.YtjccaojlldkmpaaW.PrintLast Go.Proofs.YtjccaojlldkmpaaW.PrintMore
open Hf (rightB hdr headOf partsOf)
open Rg
set_option linter.unusedSimpArgs false
set_option linter.unusedVariables false
set_option maxRecDepth 100000
variable {S : Nat → Prop} {w W W' w' : World} {g n B : Nat} {st : St}
theorem collect_no (M : IsMem S w g st) (A : Option Addr) (c : Nat) (xs : List Int) (hC : Kd.C (Kd.int .u64) w A xs.length xs) (hx : ∀ x ∈ xs, 0 ≤ x ∧ x < 18446744073709551616) (hxl : xs.length ≤ 100000) (hL : (walkP st.f st.os xs).2 = false) :
    Calls Try.prog 19 #[.pointer (some ⟨g, 0, none⟩), .slice A xs.length c] w fun e W => e = .returned (.tuple #[.slice none 0 0, .int .i64 40]) ∧ Below w.heap.size w W := by
  have hCh : ∀ W, Below w.heap.size w W → _ := fun W hb => check_any (M.below hb) A c xs (Kd.C_below hC hb) hx hxl
  rw [hL] at hCh
  go_enter Try.func19, Try.ntmps19
  go_wp2_with (first
    | (go_at_call 26; (with_reducible refine (hCh _ (below_alloc (Below.refl _ _) _)).mono ?_); clear hCh; rintro e w2 ⟨rfl, hb2⟩))
  go_ret2
  exact ⟨rfl, below_step (below_alloc (Below.refl _ w) (.cells #[.pointer (some ⟨g, 0, none⟩)] 26)) hb2⟩
theorem collect_nil (v : Value) (w : World) : Calls Try.prog 19 #[.pointer none, v] w fun e W => e = .returned (.tuple #[.slice none 0 0, .int .i64 2]) ∧ Below w.heap.size w W := by
  go_enter Try.func19, Try.ntmps19
  go_wp2_with (first
    | (go_at_call 26; (with_reducible refine (check_nil _ _).mono ?_); rintro e w2 ⟨rfl, rfl⟩))
  go_ret2
  exact ⟨rfl, below_alloc (Below.refl _ w) _⟩
theorem live_nil (v : Value) (w : World) : Calls Try.prog 28 #[.pointer none, v] w fun e W => e = .returned (.tuple #[.int .i64 0, .int .i64 2]) ∧ Below w.heap.size w W := by
  go_enter Try.func28, Try.ntmps28
  go_wp2_with (first
    | (go_at_call 26; (with_reducible refine (check_nil _ _).mono ?_); rintro e w2 ⟨rfl, rfl⟩))
  go_ret2
  exact ⟨rfl, below_alloc (Below.refl _ w) _⟩
theorem live_no (M : IsMem S w g st) (A : Option Addr) (c : Nat) (xs : List Int) (hC : Kd.C (Kd.int .u64) w A xs.length xs) (hx : ∀ x ∈ xs, 0 ≤ x ∧ x < 18446744073709551616) (hxl : xs.length ≤ 100000) (hL : (walkP st.f st.os xs).2 = false) :
    Calls Try.prog 28 #[.pointer (some ⟨g, 0, none⟩), .slice A xs.length c] w fun e W => e = .returned (.tuple #[.int .i64 0, .int .i64 40]) ∧ Below w.heap.size w W := by
  have hCh : ∀ W, Below w.heap.size w W → _ := fun W hb => check_any (M.below hb) A c xs (Kd.C_below hC hb) hx hxl
  rw [hL] at hCh
  go_enter Try.func28, Try.ntmps28
  go_wp2_with (first
    | (go_at_call 26; (with_reducible refine (hCh _ (below_alloc (Below.refl _ _) _)).mono ?_); clear hCh; rintro e w2 ⟨rfl, hb2⟩))
  go_ret2
  exact ⟨rfl, below_step (below_alloc (Below.refl _ w) (.cells #[.pointer (some ⟨g, 0, none⟩)] 26)) hb2⟩
/-- The loop of Live. -/
structure Lv (w W : World) (g bm bn bo : Nat) (l : List Int) (A : Option Addr) (c : Nat) (n : Int) : Prop where
  hb : Below w.heap.size w W
  m : W.heap[bm]? = some (.cells #[.pointer (some ⟨g, 0, none⟩)] 26 (0, 0))
  n : W.heap[bn]? = some (.cells #[.int .i64 n] 3 (0, 0))
  o : W.heap[bo]? = some (.cells #[.slice A l.length c] 23 (0, 0))
  r : (Kd.int .i64).R 3 W 0 (fun k => k ≠ bn) (.slice A l.length c) l
  g1 : w.heap.size ≤ bm
  g2 : w.heap.size ≤ bn
  nm : bn ≠ bm
  nw : bn ≠ bo
theorem Lv.same {bm bn bo : Nat} {l : List Int} {A : Option Addr} {c : Nat} {k : Int} (K : Lv w W g bm bn bo l A c k) (hb : Below W.heap.size W W') : Lv w W' g bm bn bo l A c k :=
  ⟨below_step K.hb hb, blk_below K.m hb, blk_below K.n hb, blk_below K.o hb, Kd.R_below K.r hb, K.g1, K.g2, K.nm, K.nw⟩
theorem Lv.put {bm bn bo : Nat} {l : List Int} {A : Option Addr} {c : Nat} {k : Int} (K : Lv w W g bm bn bo l A c k) (v : Int) : Lv w (W.setCell ⟨bn, 0, none⟩ (.int .i64 v)) g bm bn bo l A c v :=
  ⟨below_set K.hb K.g2, blk_far K.m (fun e => K.nm e.symm) _, blk_put K.n 0 _ rfl, blk_far K.o (fun e => K.nw e.symm) _, Kd.R_far K.r (fun k hk => hk) _, K.g1, K.g2, K.nm, K.nw⟩
theorem Lv.kept {bm bn bo : Nat} {l : List Int} {A : Option Addr} {c : Nat} {k : Int} (K : Lv w W g bm bn bo l A c k) {B' : Nat} {row : Option Nat} (hg : W.grownBy W' row) (h : ∀ r, row = some r → B' ≤ r ∧ ∃ o : Obj, W.heap[r]? = some o ∧ o.isCells = false) (hw : w.heap.size ≤ B') :
    Lv w W' g bm bn bo l A c k := by
  have nc : ∀ {k : Nat} {o : Obj}, W.heap[k]? = some o → o.isCells = true → some k ≠ row := fun hk ho e => by
    obtain ⟨-, o', h1, h2⟩ := h _ e.symm
    rw [hk] at h1
    cases h1
    rw [ho] at h2
    cases h2
  have fr : Fr (fun k => row = some k) W W' := Fr.of_grown hg (fun k e => e)
  refine ⟨⟨fr.low.os.trans K.hb.os, fr.low.tape.trans K.hb.tape, fr.low.output.trans K.hb.output, Nat.le_trans K.hb.size fr.low.size, fun k hk => (fr.same k (Nat.lt_of_lt_of_le hk K.hb.size) (fun e => by have := (h k e).1; omega)).trans (K.hb.block k hk)⟩,
    (hg.block _ (blk_lt K.m) (nc K.m rfl)).trans K.m, (hg.block _ (blk_lt K.n) (nc K.n rfl)).trans K.n, (hg.block _ (blk_lt K.o) (nc K.o rfl)).trans K.o, ?_, K.g1, K.g2, K.nm, K.nw⟩
  refine Kd.R_mono (Kd.R_step (Kd.R_bound K.r) (fun k hk hl => ?_)) (fun k hk => hk.1)
  obtain ⟨-, -, -, q, -, cells, hc⟩ := hk
  exact hg.block k hl (nc hc rfl)
attribute [local go_sem] Oper.semAt_some
set_option maxHeartbeats 8000000 in
theorem live_any (M : IsMem S w g st) (A : Option Addr) (c : Nat) (xs : List Int) (hC : Kd.C (Kd.int .u64) w A xs.length xs) (hx : ∀ x ∈ xs, 0 ≤ x ∧ x < 18446744073709551616) (hxl : xs.length ≤ 100000) {L : List Int} (hL : walkP st.f st.os xs = (L, true)) :
    Calls Try.prog 28 #[.pointer (some ⟨g, 0, none⟩), .slice A xs.length c] w fun e W => e = .returned (.tuple #[.int .i64 ((flat (L.map (obAt st.f st.os))).length : Int), .int .i64 0]) ∧ Below w.heap.size w W := by
  have hCh : ∀ W, Below w.heap.size w W → _ := fun W hb => check_any (M.below hb) A c xs (Kd.C_below hC hb) hx hxl
  have hRe : ∀ W, Below w.heap.size w W → _ := fun W hb => reach_any (M.below hb) A c xs (Kd.C_below hC hb) hx hxl
  have hre : reachL st xs = L := by unfold reachL; rw [hL]; rfl
  rw [hre] at hRe
  rw [hL] at hCh
  have hOL : Ord st.f st.os L := by have := Ord.walkP st.f st.os xs; rw [hL] at this; exact this
  have hfit := ord_fit hOL
  obtain ⟨hf1, hf2, hf3⟩ := M.fbound
  have hll := hOL.len
  have hml := M.os_len
  refine (callsIn_wide (n := 5)).1 (callsIn_of_wp_marks Try.func28 rfl trivial ?_ rfl)
  simp only [Try.ntmps28, List.size_toArray, List.length_cons, List.length_nil, Nat.reduceAdd, Nat.reduceSub, Array.replicate_succ, Array.replicate_zero, List.push_toArray, List.append_toArray, List.nil_append, List.cons_append]
  refine wpIn_wide.2 ?_
  go_wp2_with (first
    | (go_at_call 26; (with_reducible refine (hCh _ (below_alloc (Below.refl _ _) _)).mono ?_); clear hCh; rintro e w2 ⟨rfl, hb2⟩
       have hm2 := blk_below (blk_new w (.cells #[.pointer (some ⟨g, 0, none⟩)] 26)) hb2
       have hbw := below_step (below_alloc (Below.refl _ w) (.cells #[.pointer (some ⟨g, 0, none⟩)] 26)) hb2
       have hm3 := blk_alloc hm2 (.cells #[.int .i64 0] 3)
       have hcm : (w2.alloc (.cells #[.int .i64 0] 3)).cell? ⟨w.heap.size, 0, none⟩ = some (.pointer (some ⟨g, 0, none⟩)) := (blk_cell hm3 0).trans rfl)
    | (go_at_call 27; (with_reducible refine (hRe _ (below_alloc hbw _)).mono ?_); clear hRe; rintro e w3 ⟨bo, rfl, hS, hb3⟩; refine Hid.out ?_))
  unfold Hid
  obtain ⟨hbo, Ao, co, ho1, ho2⟩ := hS
  rw [World.size_alloc] at hbo ho2
  have hs2 : w.heap.size + 1 ≤ w2.heap.size := by have := hb2.size; rw [World.size_alloc] at this; exact this
  have K0 : Lv w w3 g w.heap.size w2.heap.size bo L Ao co 0 := ⟨below_step (below_alloc hbw _) hb3, blk_below hm3 hb3, blk_below (blk_new w2 _) hb3, ho1, Kd.R_lower (Kd.R_mono (Kd.R_bound ho2) (fun k hk => by have := hk.2.1; omega)) (Nat.zero_le _), Nat.le_refl _, by omega, by omega, by omega⟩
  have hsz3 := hb3.size
  rw [World.size_alloc] at hsz3
  clear hb3 hm3 hcm hm2 hbw hb2 ho1 ho2
  generalize w.heap.size = bm at K0 hs2 ⊢
  generalize w2.heap.size = bn at K0 hs2 hbo hsz3 ⊢
  go_wp2_with fail
  refine (wpIn_wide (n := 5)).1 ?_
  refine' range_all (F := Fence.wide) (n := 5) rfl (by omega) (gf := 65) (lb := #[.pointer (some ⟨bo, 0, none⟩)]) rfl trivial (enters_of Try.func65 (by kernel_rfl) rfl)
    (encs := fun k => #[.int .i64 (rdOf 0 L (k : Int))]) (N := L.length)
    (fun k W => Lv w W g bm bn bo L Ao co ((flat ((L.take k).map (obAt st.f st.os))).length : Int))
    (w0 := w3) (reach_feeds Fence.wide (5 - 1) trivial rfl (by omega) bo L _ w3 Ao co (by omega) (fun k W K => ⟨K.o, Kd.R_mono K.r (fun _ _ => trivial)⟩)) (Below.refl _ _) (fun _ => rfl) ?own ?h0 _ ?assign ?body ?done
  case own =>
    intro k W W' row K hg hr
    exact K.kept hg hr K0.hb.size
  case h0 => exact K0
  case assign =>
    intro l k W K' hK
    gi_wp2
    exact hK
  case body =>
    intro l k W K hk
    have hcm : W.cell? ⟨bm, 0, none⟩ = some (.pointer (some ⟨g, 0, none⟩)) := (blk_cell K.m 0).trans rfl
    have hcn : W.cell? ⟨bn, 0, none⟩ = some (.int .i64 ((flat ((L.take k).map (obAt st.f st.os))).length : Int)) := (blk_cell K.n 0).trans rfl
    have hfn := blk_frozen K.n 0
    have hrd : rdOf 0 L (k : Int) = L[k] := by simp [rdOf, List.getD, hk]
    obtain ⟨i, hi, hai⟩ := mem_heads.1 (hOL.sub L[k] (List.getElem_mem hk))
    have hL' := (M.below K.hb).look i hi
    rw [← hai] at hL'
    have hob : obAt st.f st.os L[k] = st.os[i] := by rw [hai]; exact obAt_at _ _ i hi
    have htk : ((flat ((L.take (k + 1)).map (obAt st.f st.os))).length : Int) = ((flat ((L.take k).map (obAt st.f st.os))).length : Int) + (1 + (st.os[i].fs.length : Int)) := by
      rw [List.take_succ_eq_append_getElem hk, List.map_append, flat_append, List.length_append, List.map_cons, List.map_nil, flat_one, hob, row_length]
      omega
    have hle : (flat ((L.take (k + 1)).map (obAt st.f st.os))).length ≤ (flat (L.map (obAt st.f st.os))).length := by
      have e : L.map (obAt st.f st.os) = (L.take (k + 1)).map (obAt st.f st.os) ++ (L.drop (k + 1)).map (obAt st.f st.os) := by rw [← List.map_append, List.take_append_drop]
      rw [e, flat_append, List.length_append]
      omega
    rw [hrd]
    have hnk : (0 : Int) ≤ ((flat ((L.take k).map (obAt st.f st.os))).length : Int) := Int.natCast_nonneg _
    generalize ((flat ((L.take k).map (obAt st.f st.os))).length : Int) = nk at hcn htk K hnk
    obtain ⟨len, hlen⟩ : ∃ len : Nat, st.os[i].fs.length = len := ⟨_, rfl⟩
    rw [hlen] at hL' htk
    have hb1 : (-9223372036854775808 : Int) ≤ nk + (1 + (len : Int)) ∧ nk + (1 + (len : Int)) ≤ 9223372036854775807 := by omega
    have hb2 : (1 : Int) + (len : Int) ≤ 9223372036854775807 := by omega
    have hT := Aside0.mk htk
    clear htk hai hob hrd hle hlen
    gi_wp2_with fail
    refine ⟨trivial, (CallsIn.inRound l ((callsIn_wide (n := 2)).2 hL')).mono ?_⟩
    clear hL'
    rintro e w7 ⟨rfl, hd7⟩
    have K7 := K.same hd7.below
    have hcn7 : w7.cell? ⟨bn, 0, none⟩ = some (.int .i64 nk) := (blk_cell K7.n 0).trans rfl
    have hfn7 := blk_frozen K7.n 0
    have hKF7 : KeepsFrom w3.heap.size W w7 := by
      obtain ⟨m7, rfl⟩ := hd7
      exact ⟨Nat.le_refl _, fun k o _ h _ => h⟩
    clear K hcm hcn hfn hd7
    gi_wp2_with fail
    refine ⟨hKF7.trans ⟨by rw [World.size_setCell]; exact Nat.le_refl _, fun k o _ h hc => ?_⟩, ?_⟩
    · by_cases e : k = bn
      · subst e
        rw [K7.n] at h
        cases h
        cases hc
      · exact ((Fr.of_set (S := fun k => k = bn) w7 ⟨bn, 0, none⟩ _ rfl).same k (Array.getElem?_eq_some_iff.1 h).1 e).trans h
    · show Lv _ _ _ _ _ _ _ _ _ _
      rw [hT.out]
      exact K7.put _
  case done =>
    intro D W hD K hdf
    rw [List.take_length] at K
    have hcn : W.cell? ⟨bn, 0, none⟩ = some (.int .i64 ((flat (L.map (obAt st.f st.os))).length : Int)) := (blk_cell K.n 0).trans rfl
    go_wp2_with fail
    refine ⟨by simp, .inl ⟨_, _, rfl, run_takeDeferred hdf, ?_⟩⟩
    exact ⟨_, results_tmp2 rfl _ _ _, rfl, (K.kept (grownBy_putObj' W D (.deferred none)) (B' := w3.heap.size) (fun r e => by cases e; exact ⟨hD, _, hdf, rfl⟩) K0.hb.size).hb⟩
end Go.Proofs.Ytjccaojlldkmpaa.Mem
/- The law's memory, made of a list of objects. -/
namespace Go.Proofs.Ytjccaojlldkmpaa.Mem
open Go.RowKit Go.Proofs.YtjccaojlldkmpaaW.PrintWords Go.Proofs.YtjccaojlldkmpaaW.PrintLast Go.Proofs.YtjccaojlldkmpaaW.PrintMore
open Hf (rightB hdr headOf partsOf)
open Pa (S71 k71 z71 rd_T71 at_T71)
set_option linter.unusedSimpArgs false
set_option linter.unusedVariables false
set_option maxRecDepth 100000
variable {S : Nat → Prop} {w W W' w' : World} {g n B : Nat} {st : St}
/-- How far an object is from the first address. -/
def adr (l : List S71) (k : Nat) : Nat := ((l.take k).map (fun o => o.f2.length + 1)).sum
theorem adr_succ (l : List S71) (k : Nat) (h : k < l.length) : adr l (k + 1) = adr l k + (l[k].f2.length + 1) := by
  unfold adr
  rw [List.take_succ_eq_append_getElem h, List.map_append, List.sum_append]
  simp
theorem adr_mono (l : List S71) (i d : Nat) : adr l i ≤ adr l (i + d) := by
  induction d with
  | zero => exact Nat.le_refl _
  | succ d ih =>
    by_cases h : i + d < l.length
    · have := adr_succ l (i + d) h
      rw [← Nat.add_assoc]
      omega
    · have e : l.take (i + (d + 1)) = l.take (i + d) := by rw [List.take_of_length_le (by omega), List.take_of_length_le (by omega)]
      unfold adr at *
      rw [e]
      exact ih
theorem rd_at (l : List S71) (k : Nat) (h : k < l.length) : rd_T71 l (k : Int) = l[k] := by simp [rd_T71, List.getD, h]
theorem at_l (l : List S71) (k m : Nat) (hk : k ≤ l.length) (hb : adr l k ≤ 100000) (hl : l.length ≤ 100000) : ∀ d i, i + d = k → Pa.kindlingref04_At.l0 (d + 1 + m) l (k : Int) (1 + (adr l i : Int)) (i : Int) = some (1 + (adr l k : Int)) := by
  intro d
  induction d with
  | zero =>
    intro i hi
    obtain rfl : i = k := by omega
    rw [show 0 + 1 + m = m + 1 by omega, Pa.kindlingref04_At.l0, if_neg (by omega)]
  | succ d ih =>
    intro i hi
    have hi' : i < l.length := by omega
    have h1 := adr_succ l i hi'
    have h2 := adr_mono l (i + 1) d
    rw [show i + 1 + d = k by omega] at h2
    rw [show d + 1 + 1 + m = (d + 1 + m) + 1 by omega, Pa.kindlingref04_At.l0, if_pos (by omega), if_pos (by omega), if_pos (by omega), rd_at l i hi']
    have e1 : wrap64 (wrap64 (1 + (adr l i : Int) + 1) + (l[i].f2.length : Int)) = 1 + (adr l (i + 1) : Int) := by unfold wrap64; omega
    have e2 : wrap64 ((i : Int) + 1) = ((i + 1 : Nat) : Int) := by unfold wrap64; omega
    rw [e1, e2]
    exact ih (i + 1) (by omega)
theorem at_f (l : List S71) (k m : Nat) (hk : k ≤ l.length) (hb : adr l k ≤ 100000) (hl : l.length ≤ 100000) : Pa.kindlingref04_At.f (k + 1 + m) l (k : Int) = some (1 + (adr l k : Int)) := by
  have h := at_l l k m hk hb hl k 0 (by omega)
  exact h
/-- The objects on their way: what lies ahead of the f-th field of the k-th is stored. -/
def sto (wv : Nat → Nat → Int) (l : List S71) (k j : Nat) : List O := l.mapIdx fun p o => ⟨o.f0, o.f1, (List.range o.f2.length).map (fun f => if p < k ∨ (p = k ∧ f < j) then wv p f else if f < o.f1.toNat then 1 else 0)⟩
def nw (o : S71) : O := newO o.f0 o.f2.length o.f1.toNat
theorem sto_length (wv : Nat → Nat → Int) (l : List S71) (k j : Nat) : (sto wv l k j).length = l.length := by simp [sto]
theorem sto_get (wv : Nat → Nat → Int) (l : List S71) (k j p : Nat) (h : p < (sto wv l k j).length) (h' : p < l.length) :
    (sto wv l k j)[p] = ⟨l[p].f0, l[p].f1, (List.range l[p].f2.length).map (fun f => if p < k ∨ (p = k ∧ f < j) then wv p f else if f < l[p].f1.toNat then 1 else 0)⟩ := by simp [sto]
theorem sto_lens (wv : Nat → Nat → Int) (l : List S71) (k j : Nat) : (sto wv l k j).map (fun o => o.fs.length) = l.map (fun o => o.f2.length) := by
  apply List.ext_getElem
  · simp [sto]
  · intro p h1 h2
    have hp : p < l.length := by simpa using h2
    simp only [List.getElem_map]
    rw [sto_get wv l k j p (by simpa using h1) hp]
    simp
theorem pos_adr {os : List O} {l : List S71} (h : os.map (fun o => o.fs.length) = l.map (fun o => o.f2.length)) (k : Nat) : pos os k = adr l k := by
  unfold pos adr
  rw [flat_len, List.map_take, h, ← List.map_take, List.map_map]
  rfl
theorem flat_adr {os : List O} {l : List S71} (h : os.map (fun o => o.fs.length) = l.map (fun o => o.f2.length)) : (flat os).length = adr l l.length := by
  unfold adr
  rw [flat_len, h, List.map_map, List.take_length]
  rfl
theorem nw_fs (o : S71) (h : 0 ≤ o.f1 ∧ o.f1 ≤ o.f2.length) : nw o = ⟨o.f0, o.f1, (List.range o.f2.length).map (fun f => if f < o.f1.toNat then 1 else 0)⟩ := by
  have e : ((o.f1.toNat : Nat) : Int) = o.f1 := by omega
  unfold nw newO
  rw [e]
  congr 1
  apply List.ext_getElem
  · simp; omega
  · intro i h1 h2
    simp only [List.getElem_map, List.getElem_range, List.getElem_append, List.length_replicate, List.getElem_replicate]
    split <;> simp_all
theorem sto_zero (wv : Nat → Nat → Int) (l : List S71) (h : ∀ o ∈ l, 0 ≤ o.f1 ∧ o.f1 ≤ o.f2.length) : l.map nw = sto wv l 0 0 := by
  apply List.ext_getElem
  · simp [sto]
  · intro p h1 h2
    have hp : p < l.length := by simpa using h1
    rw [List.getElem_map, sto_get wv l 0 0 p h2 hp, nw_fs _ (h _ (List.getElem_mem hp))]
    congr 1
    apply List.map_congr_left
    intro f _
    rw [if_neg (show ¬ (p < 0 ∨ p = 0 ∧ f < 0) by omega)]
theorem sto_put (wv : Nat → Nat → Int) (l : List S71) (k j : Nat) (hk : k < l.length) (hj : j < l[k].f2.length) : putO (sto wv l k j) k j (wv k j) = sto wv l k (j + 1) := by
  apply List.ext_getElem
  · rw [putO_length, sto_length, sto_length]
  · intro p h1 h2
    have hp : p < (sto wv l k j).length := by rw [putO_length] at h1; exact h1
    have hpl : p < l.length := by rw [sto_length] at hp; exact hp
    rw [putO_get _ _ _ _ _ h1 hp, sto_get wv l k (j + 1) p h2 hpl, sto_get wv l k j p hp hpl]
    by_cases e : k = p
    · subst e
      rw [if_pos rfl]
      unfold O.put
      congr 1
      apply List.ext_getElem
      · simp
      · intro f h3 h4
        simp only [List.getElem_set, List.getElem_map, List.getElem_range]
        by_cases e2 : j = f
        · subst e2
          simp
        · rw [if_neg e2]
          by_cases e3 : f < j
          · simp [e3, show f < j + 1 by omega]
          · simp [e3, show ¬ f < j + 1 by omega]
    · rw [if_neg e]
      congr 1
      apply List.map_congr_left
      intro f _
      by_cases e2 : p < k
      · rw [if_pos (.inl e2), if_pos (.inl e2)]
      · have c1 : ¬ (p < k ∨ p = k ∧ f < j) := by omega
        have c2 : ¬ (p < k ∨ p = k ∧ f < j + 1) := by omega
        rw [if_neg c1, if_neg c2]
theorem sto_done (wv : Nat → Nat → Int) (l : List S71) (k : Nat) (hk : k < l.length) : sto wv l k l[k].f2.length = sto wv l (k + 1) 0 := by
  apply List.ext_getElem
  · rw [sto_length, sto_length]
  · intro p h1 h2
    have hpl : p < l.length := by rw [sto_length] at h1; exact h1
    rw [sto_get _ _ _ _ _ h1 hpl, sto_get _ _ _ _ _ h2 hpl]
    congr 1
    apply List.map_congr_left
    intro f hf
    rw [List.mem_range] at hf
    by_cases e : p < k + 1
    · have c2 : (p < k + 1 ∨ p = k + 1 ∧ f < 0) := .inl e
      have c1 : (p < k ∨ p = k ∧ f < l[k].f2.length) := by
        by_cases e2 : p = k
        · subst e2; exact .inr ⟨rfl, hf⟩
        · exact .inl (by omega)
      rw [if_pos c1, if_pos c2]
    · have c1 : ¬ (p < k ∨ p = k ∧ f < l[k].f2.length) := by omega
      have c2 : ¬ (p < k + 1 ∨ p = k + 1 ∧ f < 0) := by omega
      rw [if_neg c1, if_neg c2]
/-- What of the list the memory needs. -/
structure Gl (wv : Nat → Nat → Int) (l : List S71) (N : Int) : Prop where
  len : l.length ≤ 1000
  r : ∀ o ∈ l, rightB o.f0 o.f2.length o.f1 = true
  fit : (adr l l.length : Int) ≤ N
  n : 64 ≤ N ∧ N ≤ 65536
  wr : ∀ k f, 0 ≤ wv k f ∧ wv k f < 18446744073709551616
  wd : ∀ (k : Nat) (h : k < l.length) (f : Nat), f < l[k].f2.length → ∃ m, Pa.kindlingref04_Word.f m l (k : Int) (f : Int) = some (wv k f)
/-- What lies in the memory. -/
def full (wv : Nat → Nat → Int) (l : List S71) : List O := sto wv l l.length 0
def Cells3 (f0 f1 : Int) (m : Nat) (ad : Addr) (k : Nat) (A2 : Option Addr) (c2 : Nat) (W' : World) : Prop :=
  W'.cell? (ad.add (k * 4)) = some (.int .i64 f0) ∧ W'.cell? ⟨(ad.add (k * 4)).block, (ad.add (k * 4)).off + 1, none⟩ = some (.int .i64 f1) ∧ W'.cell? ⟨(ad.add (k * 4)).block, (ad.add (k * 4)).off + 2, none⟩ = some (.slice A2 m c2)
theorem cells3 {A : Option Addr} {l : List S71} (h : Kd.C k71 w A l.length l) (k : Nat) (hk : k < l.length) :
    ∃ ad A2 c2, A = some ad ∧ ∀ W', Below w.heap.size w W' → Cells3 l[k].f0 l[k].f1 l[k].f2.length ad k A2 c2 W' := by
  obtain ⟨ad, A2, c2, e, h0, h1, h2, h3, h4, h5⟩ := at_T71 h (k : Int) (by omega) (by omega)
  rw [rd_at l k hk, Int.toNat_natCast] at h0 h1 h2
  have lt : ∀ {a : Addr} {u : Value}, w.cell? a = some u → a.block < w.heap.size := fun {a u} h => by
    rcases Nat.lt_or_ge a.block w.heap.size with h1 | h1
    · exact h1
    · rw [World.cell?, Array.getElem?_eq_none h1] at h
      cases h
  exact ⟨ad, A2, c2, e, fun W' hb => ⟨(hb.cell (lt h0)).trans h0, (hb.cell (lt h1)).trans h1, (hb.cell (lt h2)).trans h2⟩⟩
set_option maxHeartbeats 8000000 in
theorem made_any (wv : Nat → Nat → Int) (A : Option Addr) (c : Nat) (l : List S71) (N : Int) (hC : Kd.C k71 w A l.length l) (hc : l.length ≤ c) (G : Gl wv l N) :
    Calls Try.prog 15 #[.slice A l.length c, .int .i64 N] w fun e W => ∃ g, e = .returned (.pointer (some ⟨g, 0, none⟩)) ∧ One w W g ⟨N, 0, full wv l, [], .map []⟩ := by
  have hr : ∀ o ∈ l, 0 ≤ o.f1 ∧ o.f1 ≤ o.f2.length := fun o ho => by
    obtain ⟨p1, p2, p3, p4, p5, p6⟩ := Hf.right_parts (G.r o ho)
    exact ⟨p5, p6⟩
  have hN := G.n
  have hfit := G.fit
  have hlen := G.len
  have hu71 := Try.underlying71
  go_enter Try.func15, Try.ntmps15
  go_wp2_with (first
    | (go_at_call 42; (with_reducible refine (one_new N _ hN).mono ?_); rintro e w2 ⟨g, rfl, M0⟩))
  go_loopw [7] (fun i wr => ∃ k : Nat, k ≤ l.length ∧ i = .int .i64 (k : Int) ∧ One w wr g ⟨N, 0, (l.take k).map nw, [], .map []⟩) (fun i _ => l.length - (intOf i).toNat)
  case atStart => exact ⟨0, Nat.zero_le _, rfl, M0⟩
  case round =>
    clear M0
    obtain ⟨k, hk, rfl, M⟩ := hrel
    by_cases hk1 : k < l.length
    · have t1 : decide ((k : Int) < (l.length : Int)) = true := decide_eq_true (by omega)
      have t0 : decide (0 ≤ (k : Int)) = true := decide_eq_true (by omega)
      obtain ⟨ad, A2, c2, rfl, hS⟩ := cells3 hC k hk1
      obtain ⟨q, hq⟩ : ∃ q : Nat, l[k].f1 = (q : Int) := ⟨l[k].f1.toNat, by have := hr _ (List.getElem_mem hk1); omega⟩
      have hrt := G.r _ (List.getElem_mem hk1)
      have hal := adr_mono l (k + 1) (l.length - (k + 1))
      rw [show k + 1 + (l.length - (k + 1)) = l.length by omega, adr_succ l k hk1] at hal
      have hfl : (flat ((l.take k).map nw)).length = adr l k := by
        rw [flat_adr (l := l.take k) (by rw [List.map_map]; apply List.map_congr_left; intro o ho; exact newO_len _ _ _ (by have := hr o (List.mem_of_mem_take ho); omega))]
        unfold adr
        rw [List.take_take, List.length_take, show min (min k l.length) k = k by omega]
      have hst : ({ (⟨N, 0, (l.take k).map nw, [], .map []⟩ : St) with os := (l.take k).map nw ++ [newO l[k].f0 l[k].f2.length q] } : St) = ⟨N, 0, (l.take (k + 1)).map nw, [], .map []⟩ := by
        rw [List.take_succ_eq_append_getElem hk1, List.map_append, List.map_cons, List.map_nil]
        unfold nw
        rw [hq, Int.toNat_natCast]
      have hAl : ∀ W, Drawn0 wr W → Calls Try.prog 36 #[.pointer (some ⟨g, 0, none⟩), .int .i64 l[k].f0, .int .i64 (l[k].f2.length : Int), .int .i64 (q : Int)] W fun e w' => e = .returned (.tuple #[.int .i64 (1 + (adr l k : Int)), .int .i64 0]) ∧ One w w' g ⟨N, 0, (l.take (k + 1)).map nw, [], .map []⟩ := by
        intro W hd
        have h := (M.drawn hd).alloc l[k].f0 l[k].f2.length q (by rw [← hq]; exact hrt) (by rw [hfl]; show (adr l k : Int) + l[k].f2.length + 1 ≤ N; omega)
        rw [show (⟨N, 0, (l.take k).map nw, [], .map []⟩ : St).f + ((flat ((l.take k).map nw)).length : Int) = 1 + (adr l k : Int) by rw [hfl]; simp [St.f]] at h
        refine h.mono ?_
        rintro e w' ⟨h1, h2⟩
        exact ⟨h1, hst ▸ h2⟩
      rw [hq] at hS
      have hAt : ∀ W, Below w.heap.size w W → Calls Try.prog 43 #[.slice (some ad) l.length c, .int .i64 (k : Int)] W fun e w' => e = .returned (.int .i64 (1 + (adr l k : Int))) ∧ Drawn0 W w' := fun W hb =>
        Pa.kindlingref04_At.calls (k + 1 + 0) (some ad) c l (k : Int) _ W (Kd.C_below hC hb) hc (at_f l k 0 hk (by omega) (by omega))
      have hS1 := hS wr M.1
      have hSd := hS wr.drew (below_drew M.1)
      generalize l[k].f0 = kd at hS hAl hS1 hSd
      generalize l[k].f2.length = nn at hS hAl hS1 hSd
      generalize hO2 : (l.take (k + 1)).map nw = os2 at hAl
      obtain ⟨aa, hAA⟩ : ∃ aa, (1 : Int) + (adr l k : Int) = aa := ⟨_, rfl⟩
      rw [hAA] at hAl hAt
      have hM1 := M.1
      replace hO2 := Aside0.mk hO2
      clear hst hrt hq hal hfl hAA M hr hfit
      unfold Cells3 at hS1 hSd
      go_wp2_with fail
      go_region_held3 (fun W' => W'.cell? (ad.add (k * 4)) = some (.int .i64 kd) ∧ W'.cell? ⟨(ad.add (k * 4)).block, (ad.add (k * 4)).off + 1, none⟩ = some (.int .i64 q) ∧ W'.cell? ⟨(ad.add (k * 4)).block, (ad.add (k * 4)).off + 2, none⟩ = some (.slice A2 nn c2))
        (first | (with_reducible exact hS1) | (with_reducible exact hSd) | (with_reducible exact hS5))
        (first
          | (go_at_call 36; (with_reducible refine Calls.mono (hAl _ ⟨1, rfl⟩) ?_); rintro e w5 ⟨rfl, M5⟩; have hS5 := hS w5 M5.1; unfold Cells3 at hS5))
      have hB5 := M5.1
      go_wp2_with (first
        | (go_at_call 43; (with_reducible refine (hAt _ hB5).mono ?_); rintro e w6 ⟨rfl, hd6⟩))
      go_roundw
      case rel => exact ⟨k + 1, by omega, by simp, hO2.out ▸ M5.drawn hd6⟩
      case measure => simp [intOf]; omega
    · obtain rfl : k = l.length := by omega
      have t1 : decide (((l.length : Nat) : Int) < (l.length : Int)) = false := decide_eq_false (by omega)
      rw [List.take_length, sto_zero wv l hr] at M
      go_wp2_with fail
      go_loopw [10] (fun i wr => ∃ k : Nat, k ≤ l.length ∧ i = .int .i64 (k : Int) ∧ One w wr g ⟨N, 0, sto wv l k 0, [], .map []⟩) (fun i _ => l.length - (intOf i).toNat)
      case atStart => exact ⟨0, Nat.zero_le _, rfl, M⟩
      case round =>
        clear M hk hk1 t1
        obtain ⟨k, hk, rfl, M⟩ := hrel
        by_cases hk1 : k < l.length
        · have t1 : decide ((k : Int) < (l.length : Int)) = true := decide_eq_true (by omega)
          have t0 : decide (0 ≤ (k : Int)) = true := decide_eq_true (by omega)
          have hnl : l[k].f2.length ≤ 16384 := by
            obtain ⟨p1, p2, p3, p4, p5, p6⟩ := Hf.right_parts (G.r _ (List.getElem_mem hk1))
            omega
          have hal := adr_mono l (k + 1) (l.length - (k + 1))
          rw [show k + 1 + (l.length - (k + 1)) = l.length by omega, adr_succ l k hk1] at hal
          obtain ⟨ad, A2, c2, rfl, hS⟩ := cells3 hC k hk1
          obtain ⟨nn, hnn⟩ : ∃ nn, l[k].f2.length = nn := ⟨_, rfl⟩
          rw [hnn] at hS hnl hal
          have hAt : ∀ W, Below w.heap.size w W → Calls Try.prog 43 #[.slice (some ad) l.length c, .int .i64 (k : Int)] W fun e w' => e = .returned (.int .i64 (1 + (adr l k : Int))) ∧ Drawn0 W w' := fun W hb =>
            Pa.kindlingref04_At.calls (k + 1 + 0) (some ad) c l (k : Int) _ W (Kd.C_below hC hb) hc (at_f l k 0 hk (by omega) (by omega))
          have hWd : ∀ W (j : Nat), j < nn → Below w.heap.size w W → Calls Try.prog 45 #[.slice (some ad) l.length c, .int .i64 (k : Int), .int .i64 (j : Int)] W fun e w' => e = .returned (.int .u64 (wv k j)) ∧ Below W.heap.size W w' := fun W j hj hb => by
            obtain ⟨m, hm⟩ := G.wd k hk1 j (by rw [hnn]; exact hj)
            exact Pa.kindlingref04_Word.calls m (some ad) c l (k : Int) (j : Int) _ W (Kd.C_below hC hb) hc hm
          have hSt : ∀ W (j : Nat), j < nn → One w W g ⟨N, 0, sto wv l k j, [], .map []⟩ → Calls Try.prog 44 #[.pointer (some ⟨g, 0, none⟩), .int .i64 (1 + (adr l k : Int)), .int .i64 (j : Int), .int .u64 (wv k j)] W fun e w' => e = .returned (.int .i64 0) ∧ One w w' g ⟨N, 0, sto wv l k (j + 1), [], .map []⟩ := fun W j hj M => by
            have hks : k < (sto wv l k j).length := by rw [sto_length]; exact hk1
            have hfl : (sto wv l k j)[k].fs.length = nn := by rw [sto_get wv l k j k hks hk1, ← hnn]; simp
            have h := M.store k j (wv k j) hks (by show j < (sto wv l k j)[k].fs.length; rw [hfl]; exact hj) (G.wr k j)
            rw [show (⟨N, 0, sto wv l k j, [], .map []⟩ : St).f + (pos (⟨N, 0, sto wv l k j, [], .map []⟩ : St).os k : Int) = 1 + (adr l k : Int) by rw [show pos (⟨N, 0, sto wv l k j, [], .map []⟩ : St).os k = adr l k from pos_adr (sto_lens wv l k j) k]; simp [St.f]] at h
            have hp := sto_put wv l k j hk1 (by rw [hnn]; exact hj)
            rw [show ({ (⟨N, 0, sto wv l k j, [], .map []⟩ : St) with os := putO (⟨N, 0, sto wv l k j, [], .map []⟩ : St).os k j (wv k j) } : St) = ⟨N, 0, sto wv l k (j + 1), [], .map []⟩ by rw [← hp]] at h
            exact h
          have hdn := sto_done wv l k hk1
          rw [hnn] at hdn
          have hNN := Aside0.mk hnn
          have hDN := Aside0.mk hdn
          obtain ⟨aa, hAA⟩ : ∃ aa, (1 : Int) + (adr l k : Int) = aa := ⟨_, rfl⟩
          rw [hAA] at hAt hSt
          clear hnn hdn hAA hal hfit
          go_wp2_with fail
          go_loopw [11] (fun i wr => ∃ j : Nat, j ≤ nn ∧ i = .int .i64 (j : Int) ∧ One w wr g ⟨N, 0, sto wv l k j, [], .map []⟩) (fun i _ => nn - (intOf i).toNat)
          case atStart => exact ⟨0, Nat.zero_le _, rfl, M⟩
          case round =>
            clear M
            obtain ⟨j, hj, rfl, M⟩ := hrel
            obtain ⟨hS1, hS2, hS3⟩ := hS _ M.1
            have hB4 := M.1
            by_cases hj1 : j < nn
            · have t2 : decide ((j : Int) < (nn : Int)) = true := decide_eq_true (by omega)
              go_wp2_with (first
                | (go_at_call 43; (with_reducible refine (hAt _ hB4).mono ?_); rintro e w6 ⟨rfl, hd6⟩
                   have M6 := M.drawn hd6
                   have hB6 := M6.1)
                | (go_at_call 45; (with_reducible refine (hWd _ j hj1 hB6).mono ?_); rintro e w7 ⟨rfl, hb7⟩
                   have M7 : One w w7 g ⟨N, 0, sto wv l k j, [], .map []⟩ := ⟨below_step M6.1 hb7, (One.of M6.1 (T := fun k => w.heap.size ≤ k) (Fr.of_below hb7) (M6.2.keep (T := fun _ => False) (Fr.of_below hb7) (fun _ _ h => h)) (fun _ h => h)).2⟩)
                | (go_at_call 44; (with_reducible refine (hSt _ j hj1 M7).mono ?_); rintro e w8 ⟨rfl, M8⟩))
              go_roundw
              case rel => exact ⟨j + 1, by omega, by simp, M8⟩
              case measure => simp [intOf]; omega
            · obtain rfl : j = nn := by omega
              have t2 : decide ((j : Int) < (j : Int)) = false := decide_eq_false (by omega)
              go_wp2_with fail
              go_roundw
              case rel => exact ⟨k + 1, by omega, by simp, hDN.out ▸ M⟩
              case measure => simp [intOf]; omega
        · obtain rfl : k = l.length := by omega
          have t1 : decide (((l.length : Nat) : Int) < (l.length : Int)) = false := decide_eq_false (by omega)
          go_wp2_with fail
          go_ret
          exact ⟨g, rfl, M⟩
end Go.Proofs.Ytjccaojlldkmpaa.Mem
/- What comes of the law's fixed calls. -/
namespace Go.Proofs.Ytjccaojlldkmpaa.Mem
open Go.RowKit Go.Proofs.YtjccaojlldkmpaaW.PrintWords Go.Proofs.YtjccaojlldkmpaaW.PrintLast Go.Proofs.YtjccaojlldkmpaaW.PrintMore
open Hf (rightB hdr headOf partsOf)
set_option linter.unusedSimpArgs false
set_option linter.unusedVariables false
open Pa (S71 k71 z71 rd_T71 at_T71)
set_option maxRecDepth 100000
variable {S : Nat → Prop} {w W W' w' : World} {g n B : Nat} {st : St}
def kl0 : List S71 := [⟨0, 0, [-5, 0], 0⟩, ⟨0, 0, [-7], 0⟩]
def kl1 : List S71 := [⟨1, 2, [-5, 0], 0⟩, ⟨1, 1, [-7], 0⟩]
def kwv (k f : Nat) : Int := if k = 0 then (if f = 0 then 5 else 2) else 7
theorem kheap : Pa.kindlingref04_Heap.f 40 kl0 = some (kl1, 69) := by kernel_rfl
theorem kword : Pa.kindlingref04_Word.f 9 kl1 0 0 = some 5 ∧ Pa.kindlingref04_Word.f 9 kl1 0 1 = some 2 ∧ Pa.kindlingref04_Word.f 9 kl1 1 0 = some 7 := by
  refine ⟨?_, ?_, ?_⟩ <;> kernel_rfl
theorem kgl : Gl kwv kl1 69 where
  len := by decide
  r := by
    intro o ho
    simp only [kl1, List.mem_cons, List.not_mem_nil, or_false] at ho
    rcases ho with rfl | rfl <;> rfl
  fit := by decide
  n := by decide
  wr := by
    intro k f
    unfold kwv
    split
    · split <;> omega
    · omega
  wd := by
    intro k hk f hf
    refine ⟨9, ?_⟩
    rcases k with _ | _ | k
    · have hf : f < 2 := hf
      rcases f with _ | _ | f
      · exact kword.1
      · exact kword.2.1
      · omega
    · have hf : f < 1 := hf
      rcases f with _ | f
      · exact kword.2.2
      · omega
    · have hk : k + 1 + 1 < 2 := hk
      omega
theorem kfull : full kwv kl1 = [⟨1, 2, [5, 2]⟩, ⟨1, 1, [7]⟩] := by kernel_rfl
theorem kwalk : walkP 1 [⟨1, 2, [5, 2]⟩, ⟨1, 1, [7]⟩] [2] = ([1], true) := by kernel_rfl
/-- A row that is laid out at once. -/
theorem lit_R {α : Type} (d : Kd α) {W : World} {base e : Nat} {xs : List α} {inner : List Value} {okp : Nat → Prop} (hrep : Reps (d.M W base okp) d.sz xs inner) (hbase : base ≤ W.heap.size) (hm : xs.length ≤ 9223372036854775807) :
    d.R e (W.alloc (.cells inner.toArray e)) base (fun _ => True) (.slice (some ⟨W.heap.size, 0, none⟩) xs.length xs.length) xs := by
  refine ⟨fun k hk => trivial, inner, ?_, ?_⟩
  · have h2 := World.ownsRow_lit (base := base) (e := e) (size := d.sz) W inner.toArray xs.length hbase (by simpa [maxLen] using hm) (by simpa using hrep.1)
    simpa using h2
  · refine hrep.imp_ (fun p c hp => d.M_mono (fun k hk => ⟨trivial, fun he => ?_⟩) (Kd.M_below (d.M_bound hp) (below_alloc (Below.refl _ _) _)))
    have h3 : k = W.heap.size := by simpa [Value.ownBlock] using he
    have := hk.2.2.1
    omega
theorem IsMem.half (M : IsMem S w g st) : Calls Try.prog 30 #[.pointer (some ⟨g, 0, none⟩)] w fun e w' => e = .returned (.int .i64 st.half) ∧ w' = w := by
  obtain ⟨vw, vh, ow, oh, mb, n, L⟩ := M
  exact half_any L.H
theorem kC (w : World) : Kd.C k71 (((w.alloc (.cells #[.int .i64 (-5), .int .i64 0] 3)).alloc (.cells #[.int .i64 (-7)] 3)).alloc (.cells #[.int .i64 0, .int .i64 0, .slice (some ⟨w.heap.size, 0, none⟩) 2 2, .int .i64 0, .int .i64 0, .int .i64 0, .slice (some ⟨w.heap.size + 1, 0, none⟩) 1 1, .int .i64 0] 71)) (some ⟨w.heap.size + 1 + 1, 0, none⟩) 2 kl0 := by
  have r1 := Kd.R_alloc (lit_R (Kd.int .i64) (W := w) (base := w.heap.size) (e := 3) (xs := [-5, 0]) (inner := [.int .i64 (-5), .int .i64 0]) (okp := fun _ => True) (Kd.reps_scalar [-5, 0]) (Nat.le_refl _) (by decide)) (.cells #[.int .i64 (-7)] 3)
  have r2 := lit_R (Kd.int .i64) (W := w.alloc (.cells #[.int .i64 (-5), .int .i64 0] 3)) (base := w.heap.size) (e := 3) (xs := [-7]) (inner := [.int .i64 (-7)]) (okp := fun _ => True) (Kd.reps_scalar [-7]) (by rw [World.size_alloc]; omega) (by decide)
  rw [World.size_alloc] at r2
  have r3 := lit_R k71 (W := (w.alloc (.cells #[.int .i64 (-5), .int .i64 0] 3)).alloc (.cells #[.int .i64 (-7)] 3)) (base := w.heap.size) (e := 71) (xs := kl0)
    (inner := [.int .i64 0, .int .i64 0, .slice (some ⟨w.heap.size, 0, none⟩) 2 2, .int .i64 0, .int .i64 0, .int .i64 0, .slice (some ⟨w.heap.size + 1, 0, none⟩) 1 1, .int .i64 0]) (okp := fun _ => True)
    (Reps.c4 (Pa.k71_mkM _ _ _ ⟨0, 0, [-5, 0], 0⟩ r1) (Reps.c4 (Pa.k71_mkM _ _ _ ⟨0, 0, [-7], 0⟩ r2) (Reps.none _ _))) (by rw [World.size_alloc, World.size_alloc]; omega) (by decide)
  rw [World.size_alloc, World.size_alloc] at r3
  exact (Kd.R_reads' r3).2.2
def kst : St := ⟨69, 0, full kwv kl1, [], .map []⟩
theorem kst_walk : walkP kst.f kst.os [2] = ([1], true) := by kernel_rfl
theorem kst_live : (flat ([1].map (obAt kst.f kst.os))).length = 3 := by kernel_rfl
theorem kst_after (D : DataW Unit) : (flat (cst kst ([1].map fun a => mapO (cw kst.f2 kst.f kst.os [1]) (obAt kst.f kst.os a).tag.toNat (obAt kst.f kst.os a)) D).os).length = 3 := by
  show (flat ([1].map fun a => mapO (cw kst.f2 kst.f kst.os [1]) (obAt kst.f kst.os a).tag.toNat (obAt kst.f kst.os a))).length = 3
  kernel_rfl
theorem two_C (w : World) : Kd.C (Kd.int .u64) (w.alloc (.cells #[.int .u64 2] 56)) (some ⟨w.heap.size, 0, none⟩) [(2 : Int)].length [2] :=
  (Kd.R_reads' (lit_R (Kd.int .u64) (W := w) (base := w.heap.size) (e := 56) (xs := [2]) (inner := [.int .u64 2]) (okp := fun _ => True) (Kd.reps_scalar [2]) (Nat.le_refl _) (by decide))).2.2
theorem known_any (w : World) : Calls Try.prog 24 #[] w fun e W => e = .returned (.bool true) ∧ Below w.heap.size w W := by
  have hH : Calls Try.prog 14 #[.slice (some ⟨w.heap.size + 1 + 1, 0, none⟩) 2 2] _ _ := Pa.kindlingref04_Heap.calls 40 (some ⟨w.heap.size + 1 + 1, 0, none⟩) 2 kl0 kl1 69 _ (kC w) (Nat.le_refl _) kheap
  have hx2 : ∀ x ∈ [(2 : Int)], 0 ≤ x ∧ x < 18446744073709551616 := fun x h => by rw [List.mem_singleton] at h; omega
  go_enter Try.func24, Try.ntmps24
  go_wp2_with (first
    | (go_at_call 14; (with_reducible refine Calls.mono hH ?_); clear hH; rintro e w4 ⟨v4, rfl, hS4, hb4⟩
       obtain ⟨A4, c4, rfl, hc4, hC4⟩ := Kd.S_reads hS4
       have hMd := made_any (w := w4) kwv A4 c4 kl1 69 hC4 hc4 kgl
       clear hC4 hc4 hS4)
    | (go_at_call 15; (with_reducible refine hMd.mono ?_); clear hMd; rintro e w5 ⟨g, rfl, M5⟩
       have hB5 := M5.1
       have P5 := M5.2.bound
       replace P5 : IsMem (fun k => w4.heap.size ≤ k ∧ k < w5.heap.size) w5 g kst := P5
       clear M5
       have P6 := P5.below (below_alloc (Below.refl _ w5) (.cells #[.int .u64 2] 56))
       have hLv : Calls Try.prog 28 #[.pointer (some ⟨g, 0, none⟩), .slice (some ⟨w5.heap.size, 0, none⟩) 1 1] (w5.alloc (.cells #[.int .u64 2] 56)) _ := live_any P6 (some ⟨w5.heap.size, 0, none⟩) 1 [2] (two_C w5) hx2 (by decide) kst_walk
       rw [kst_live] at hLv)
    | (go_at_call 28; (with_reducible refine hLv.mono ?_); clear hLv; rintro e w7 ⟨rfl, hb7⟩
       have P7 := P6.below hb7
       rw [World.size_alloc] at hb7
       have P8 := P7.below (below_alloc (Below.refl _ w7) (.cells #[.int .u64 2] 56))
       have hb47 : w5.heap.size + 1 ≤ w7.heap.size := by have := hb7.size; rw [World.size_alloc] at this; exact this
       have hCo : Calls Try.prog 19 #[.pointer (some ⟨g, 0, none⟩), .slice (some ⟨w7.heap.size, 0, none⟩) 1 1] (w7.alloc (.cells #[.int .u64 2] 56)) _ := collect_any P8 (fun k h => by rw [World.size_alloc]; omega) (some ⟨w7.heap.size, 0, none⟩) 1 [2] (two_C w7) hx2 (by decide) (fun ad h => by cases h; refine ⟨?_, by rw [World.size_alloc]; exact Nat.lt_succ_self _⟩; intro h; exact absurd h.2 (by show ¬ w7.heap.size < w5.heap.size; omega)) kst_walk)
    | (go_at_call 19; (with_reducible refine hCo.mono ?_); clear hCo; rintro e w9 ⟨S9, B9, d9, D9, rfl, M9, hu9, hl9, hn9, ho9, hf9⟩
       have hHf : Calls Try.prog 30 #[.pointer (some ⟨g, 0, none⟩)] w9 fun e w' => e = .returned (.int .i64 1) ∧ w' = w9 := M9.half
       have hFr := M9.free
       rw [kst_after D9] at hFr
       replace hFr : Calls Try.prog 32 #[.pointer (some ⟨g, 0, none⟩)] w9 fun e w' => e = .returned (.int .i64 66) ∧ Drawn0 w9 w' := hFr)
    | (go_at_call 30; (with_reducible refine hHf.mono ?_); clear hHf; rintro e w10 ⟨rfl, rfl⟩)
    | (go_at_call 32; (with_reducible refine hFr.mono ?_); clear hFr; rintro e w11 ⟨rfl, hd11⟩))
  go_ret
  have h2 := below_step (below_alloc (below_alloc (below_alloc (Below.refl w.heap.size w) (.cells #[.int .i64 (-5), .int .i64 0] 3)) (.cells #[.int .i64 (-7)] 3)) _) hb4
  have h3 := below_step h2 hB5
  have h5 := below_step (below_alloc h3 (.cells #[.int .u64 2] 56)) (by rw [World.size_alloc]; exact hb7)
  have h6 := below_alloc h5 (.cells #[.int .u64 2] 56)
  have h7 : Below w.heap.size w w10 := ⟨hf9.low.os.trans h6.os, hf9.low.tape.trans h6.tape, hf9.low.output.trans h6.output, Nat.le_trans h6.size hf9.low.size, fun k hk => (hf9.same k (Nat.lt_of_lt_of_le hk h6.size) (fun h => by have := h.1; have := h2.size; omega)).trans (h6.block k hk)⟩
  exact ⟨rfl, below_step h7 hd11.below⟩
end Go.Proofs.Ytjccaojlldkmpaa.Mem
/- ref.Heap, plain: what it makes of any list can be laid out in a memory; the words of its fields and of roots; a slice of objects as an argument, opened. -/
namespace Go.Proofs.Ytjccaojlldkmpaa.Open4
open Go.ChangeShapes Go.WideShapes Go.Deep
section
variable {H : Type} {enc : TypeId × Value → H} {P : Program} {w : World} {base : Nat} {spare : Nat → Bool} {held : Bool}
theorem open_slice_fields {t e : TypeId} {fs : Array Field} {fuel : Nat} {cs : List Value} {x : DataW H × List MemPlace} (ht : P.underlying t = some (.slice e)) (he : P.underlying e = some (.struct fs))
    (hone : oneCellFields P fs = true) (hC : P.cellsOf e = fs.size) (h : DataW.trod enc P w base spare held fuel t cs = some x) :
    (cs = [.slice none 0 0] ∧ x = (.nil, [])) ∨
    ∃ (a : Addr) (len cap m : Nat) (D : Nat → DataW H) (Pl : Nat → List MemPlace), cs = [.slice (some a) len cap] ∧ base ≤ a.block ∧ len ≤ cap ∧ cap ≤ maxLen ∧ m = (if spare a.block then cap else len) ∧
      x = (.slice ((List.range len).map D) ((List.range (m - len)).map fun j => D (len + j)), MemPlace.row a (m * fs.size) ++ (List.range m).flatMap Pl) ∧
      ∀ i, i < m → ∃ (ys : List (DataW H × List MemPlace)) (n : Nat), D i = .agg (ys.map (·.1)) ∧ Pl i = ys.flatMap (·.2) ∧ ys.length = fs.size ∧
        ∀ (j : Nat) (f : Field), fs[j]? = some f → ∃ (v : Value) (y : DataW H × List MemPlace), w.cell? (a.add (i * fs.size + j)) = some v ∧ ys[j]? = some y ∧ DataW.trod enc P w base spare held n f.type [v] = some y := by
  rcases open_slice ht h with h0 | ⟨a, len, cap, m, n, D, Pl, hcs, hb, hl, hm, hmm, hx, hi⟩
  · exact .inl h0
  · refine .inr ⟨a, len, cap, m, D, Pl, hcs, hb, hl, hm, hmm, by rw [hC] at hx; exact hx, fun i him => ?_⟩
    obtain ⟨cs', hc, ht'⟩ := hi i him
    rw [hC] at hc
    obtain ⟨ys, n', hn', hy, hlen, hyl, hf⟩ := DataW.trod_struct he ht'
    obtain ⟨_, hcl, hat⟩ := World.cells?_some hc
    simp only [Prod.mk.injEq] at hy
    refine ⟨ys, n', hy.1, hy.2, hyl, fun j f hj => ?_⟩
    obtain ⟨ho, hk⟩ := hone_of hone j f hj
    have hjl : j < fs.size := (Array.getElem?_eq_some_iff.1 hj).1
    have hcell := hat j hjl
    have hv : cs'[j]? = some (cs'[j]'(by omega)) := List.getElem?_eq_getElem (by omega)
    have h1 := hf j f hj
    rw [ho, hk] at h1
    have hone' : (cs'.drop j).take 1 = [cs'[j]'(by omega)] := by
      rw [List.drop_eq_getElem_cons (by omega)]
      rfl
    rw [hone'] at h1
    have hys : ys[j]? = some (ys[j]'(by omega)) := List.getElem?_eq_getElem (by omega)
    refine ⟨_, _, ?_, hys, h1.trans hys⟩
    rw [← Go.Deep.add_add, hcell, hv]
end
open Go.RowKit Go.Proofs.YtjccaojlldkmpaaW.PrintWords Go.Proofs.YtjccaojlldkmpaaW.PrintLast
open Pa (S71 k71 z71 k71_mk)
def i64 (x : Int) : Prop := (Lit.int .i64 x).wf = true
def wf71 (x : S71) : Prop := i64 x.f0 ∧ i64 x.f1 ∧ i64 x.f3 ∧ ∀ y ∈ x.f2, i64 y
variable {H : Type} {enc : TypeId × Value → H} {w : World} {base : Nat} {spare : Nat → Bool} {held : Bool}
theorem rowInts {fuel : Nat} {v : Value} {y : DataW H × List MemPlace} (h : DataW.trod enc Try.prog w base spare held fuel 23 [v] = some y) :
    ∃ A c, ∃ l : List Int, v = .slice A l.length c ∧ l.length ≤ c ∧ Kd.C (Kd.int .i64) w A l.length l ∧ ∀ x ∈ l, i64 x := by
  rcases open_slice1 Try.underlying23 (by kernel_rfl) h with ⟨hcs, _⟩ | ⟨a, len, cap, m, k, V, D, Pl, hcs, _, hl, hm, hmm, _, hi⟩
  · obtain rfl := (List.cons.inj hcs).1
    exact ⟨none, 0, [], rfl, Nat.le_refl _, ⟨rfl, Nat.zero_le _, fun h => absurd h (by decide)⟩, fun x hx => by cases hx⟩
  · obtain rfl := (List.cons.inj hcs).1
    have hmm2 : len ≤ m := by
      rw [hmm]; split
      · exact hl
      · exact Nat.le_refl _
    have hx : ∀ i, i < len → ∃ x : Int, i64 x ∧ w.cell? (a.add i) = some (.int .i64 x) := by
      intro i hlt
      obtain ⟨g, t⟩ := hi i (by omega)
      obtain ⟨s, e, -, hw⟩ := DataW.trod_int Try.underlying3 t
      rw [(List.cons.inj e).1] at g
      exact ⟨s, hw, g⟩
    have hX : ∃ X : Nat → Int, ∀ i, i < len → i64 (X i) ∧ w.cell? (a.add i) = some (.int .i64 (X i)) :=
      ⟨fun i => if h : i < len then Classical.choose (hx i h) else 0, fun i h => by simp only [dif_pos h]; exact Classical.choose_spec (hx i h)⟩
    obtain ⟨X, hX⟩ := hX
    have hll : ((List.range len).map X).length = len := by simp
    have hb : len ≤ 9223372036854775807 := Nat.le_trans hl (Nat.le_trans hm (by decide))
    refine ⟨some a, cap, (List.range len).map X, by rw [hll], by rw [hll]; exact hl, ⟨rfl, by rw [hll]; exact hb, fun _ => ⟨a, rfl, fun j p hj => ?_⟩⟩, fun x hx => ?_⟩
    · have hjl : j < len := by have := (List.getElem?_eq_some_iff.1 hj).1; simpa using this
      obtain rfl : p = X j := by simpa [hjl] using hj.symm
      refine ⟨[.int .i64 (X j)], rfl, rfl, fun i u hu => ?_⟩
      rcases i with _ | i
      · cases hu
        show w.cell? (a.add (j * 1 + 0)) = _
        rw [Nat.mul_one, Nat.add_zero]
        exact (hX j hjl).2
      · simp at hu
    · obtain ⟨i, hi, rfl⟩ := List.mem_map.1 hx
      exact (hX i (by simpa using hi)).1
theorem row71 {A : Option Addr} {n c : Nat} {d : DataW H} {p : List MemPlace} (h : DataW.Trod enc Try.prog w base spare held 22 (.slice A n c) d p) :
    ∃ l : List S71, n = l.length ∧ l.length ≤ c ∧ Kd.C k71 w A l.length l ∧ ∀ x ∈ l, wf71 x := by
  obtain ⟨fuel, hf⟩ := h
  rcases open_slice_fields Try.underlying22 Try.underlying71 (by kernel_rfl) (by kernel_rfl) hf with ⟨hcs, _⟩ | ⟨a, len, cap, m, D, Pl, hcs, _, hl, hm, hmm, _, hi⟩
  · simp [Value.cells] at hcs
    obtain ⟨rfl, rfl, rfl⟩ := hcs
    exact ⟨[], rfl, Nat.le_refl _, ⟨rfl, Nat.zero_le _, fun h => absurd h (by decide)⟩, fun x hx => by cases hx⟩
  · simp [Value.cells] at hcs
    obtain ⟨rfl, rfl, rfl⟩ := hcs
    have hmm2 : n ≤ m := by
      rw [hmm]; split
      · exact hl
      · exact Nat.le_refl _
    have hx : ∀ i, i < n → ∃ x : S71, wf71 x ∧ ∃ A2 c2, x.f2.length ≤ c2 ∧ Kd.C (Kd.int .i64) w A2 x.f2.length x.f2 ∧ w.cell? (a.add (i * 4 + 0)) = some (.int .i64 x.f0) ∧ w.cell? (a.add (i * 4 + 1)) = some (.int .i64 x.f1) ∧ w.cell? (a.add (i * 4 + 2)) = some (.slice A2 x.f2.length c2) ∧ w.cell? (a.add (i * 4 + 3)) = some (.int .i64 x.f3) := by
      intro i hlt
      obtain ⟨ys, k, -, -, -, hf⟩ := hi i (by omega)
      obtain ⟨v0, y0, g0, -, t0⟩ := hf 0 _ rfl
      obtain ⟨v1, y1, g1, -, t1⟩ := hf 1 _ rfl
      obtain ⟨v2, y2, g2, -, t2⟩ := hf 2 _ rfl
      obtain ⟨v3, y3, g3, -, t3⟩ := hf 3 _ rfl
      obtain ⟨b0, e0, -, w0⟩ := DataW.trod_int Try.underlying3 t0
      obtain ⟨b1, e1, -, w1⟩ := DataW.trod_int Try.underlying3 t1
      obtain ⟨A2, c2, l2, rfl, hc2, hC2, hw2⟩ := rowInts t2
      obtain ⟨b3, e3, -, w3⟩ := DataW.trod_int Try.underlying3 t3
      obtain rfl := (List.cons.inj e0).1
      obtain rfl := (List.cons.inj e1).1
      obtain rfl := (List.cons.inj e3).1
      exact ⟨⟨b0, b1, l2, b3⟩, ⟨w0, w1, w3, hw2⟩, A2, c2, hc2, hC2, g0, g1, g2, g3⟩
    have hX : ∃ X : Nat → S71, ∀ i, i < n → wf71 (X i) ∧ ∃ A2 c2, (X i).f2.length ≤ c2 ∧ Kd.C (Kd.int .i64) w A2 (X i).f2.length (X i).f2 ∧ w.cell? (a.add (i * 4 + 0)) = some (.int .i64 (X i).f0) ∧ w.cell? (a.add (i * 4 + 1)) = some (.int .i64 (X i).f1) ∧ w.cell? (a.add (i * 4 + 2)) = some (.slice A2 (X i).f2.length c2) ∧ w.cell? (a.add (i * 4 + 3)) = some (.int .i64 (X i).f3) :=
      ⟨fun i => if h : i < n then Classical.choose (hx i h) else z71, fun i h => by simp only [dif_pos h]; exact Classical.choose_spec (hx i h)⟩
    obtain ⟨X, hX⟩ := hX
    have hll : ((List.range n).map X).length = n := by simp
    refine ⟨(List.range n).map X, hll.symm, by rw [hll]; exact hl, ⟨rfl, by rw [hll]; exact Nat.le_trans hl (Nat.le_trans hm (by decide)), fun _ => ⟨a, rfl, fun j p hj => ?_⟩⟩, fun x hx => ?_⟩
    · have hjl : j < n := by have := (List.getElem?_eq_some_iff.1 hj).1; simpa using this
      obtain rfl : p = X j := by simpa [hjl] using hj.symm
      obtain ⟨-, A2, c2, hc2, hC2, g0, g1, g2, g3⟩ := hX j hjl
      refine ⟨_, rfl, k71_mk w (X j) hc2 hC2, fun i u hu => ?_⟩
      rcases i with _ | _ | _ | _ | i
      · cases hu; exact g0
      · cases hu; exact g1
      · cases hu; exact g2
      · cases hu; exact g3
      · simp at hu
    · obtain ⟨i, hi, rfl⟩ := List.mem_map.1 hx
      exact (hX i (by simpa using hi)).1
end Go.Proofs.Ytjccaojlldkmpaa.Open4

namespace Go.Proofs.Ytjccaojlldkmpaa.Mem
open Go.RowKit Go.Proofs.YtjccaojlldkmpaaW.PrintWords Go.Proofs.YtjccaojlldkmpaaW.PrintLast Go.Proofs.YtjccaojlldkmpaaW.PrintMore
open Hf (rightB hdr headOf partsOf)
open Pa (S71 k71 z71 rd_T71 at_T71)
open Open4 (i64 wf71)
set_option linter.unusedSimpArgs false
set_option linter.unusedVariables false
theorem w64 {n : Int} (h : -9223372036854775808 ≤ n ∧ n ≤ 9223372036854775807) : wrap64 n = n := by unfold wrap64; omega
theorem among_f (a n : Int) (hn : 1 ≤ n) (hn2 : n ≤ 1000000000) : ∃ r : Nat, Pa.kindlingref01_Among.f a n = some (r : Int) ∧ (r : Int) < n := by
  unfold Pa.kindlingref01_Among.f
  have h1 : (Int.tmod a n).natAbs < n.natAbs := by rw [Int.natAbs_tmod]; exact Nat.mod_lt _ (by omega)
  rw [if_neg (by omega), if_neg (by omega)]
  by_cases h : Int.tmod a n < 0
  · rw [if_pos h, w64 (by omega)]
    exact ⟨(Int.tmod a n + n).toNat, by congr 1; omega, by omega⟩
  · rw [if_neg h]
    exact ⟨(Int.tmod a n).toNat, by congr 1; omega, by omega⟩
/-- An object that can be laid out. -/
structure Fine (o : S71) : Prop where
  r : rightB o.f0 o.f2.length o.f1 = true
  n : 1 ≤ o.f2.length ∧ o.f2.length ≤ 12
  w : ∀ y ∈ o.f2, i64 y
theorem heap_j5 (k : Nat) (x0 x4 : List S71) (x5 x6 : Int) (n : Nat) (kd tg bad : Int) (fs : List Int) (hk : 1 ≤ kd ∧ kd ≤ 5) (hn : 1 ≤ n ∧ n ≤ 12) (hf : fs.length = n) (h2 : kd = 2 → n = 1) (h4 : x4.length ≤ 1000) (hw : ∀ y ∈ fs, i64 y) :
    ∃ o, Fine o ∧ o.f2.length = n ∧ Pa.kindlingref04_Heap.j5 (k + 1) x0 x4 x5 x6 (n : Int) kd tg fs bad = Pa.kindlingref04_Heap.l0 k x0 (x4 ++ [o]) (wrap64 (wrap64 (x5 + 1) + (n : Int))) (wrap64 (x6 + 1)) := by
  rw [Pa.kindlingref04_Heap.j5]
  by_cases e4 : kd = 4
  · rw [if_pos e4, if_pos (by omega)]
    refine ⟨⟨kd, 0, fs, bad⟩, ⟨?_, by show 1 ≤ fs.length ∧ fs.length ≤ 12; omega, hw⟩, hf, rfl⟩
    show rightB kd fs.length 0 = true
    unfold rightB
    rw [if_neg (by omega), if_neg (by omega), if_neg (by omega), if_pos e4, decide_eq_true (by omega)]
    rfl
  · rw [if_neg e4]
    by_cases e5 : kd = 5
    · obtain ⟨r, hr, hrn⟩ := among_f tg (wrap64 ((n : Int) + 1)) (by rw [w64 (by omega)]; omega) (by rw [w64 (by omega)]; omega)
      rw [w64 (show -9223372036854775808 ≤ (n : Int) + 1 ∧ (n : Int) + 1 ≤ 9223372036854775807 by omega)] at hrn
      rw [if_pos e5, hr, Option.bind_some, if_pos (by omega)]
      refine ⟨⟨kd, r, fs, bad⟩, ⟨?_, by show 1 ≤ fs.length ∧ fs.length ≤ 12; omega, hw⟩, hf, rfl⟩
      show rightB kd fs.length r = true
      unfold rightB
      rw [if_neg (by omega), if_neg (by omega), if_neg (by omega), if_neg e4, e5]
      rfl
    · rw [if_neg e5, if_pos (by omega)]
      refine ⟨⟨kd, n, fs, bad⟩, ⟨?_, by show 1 ≤ fs.length ∧ fs.length ≤ 12; omega, hw⟩, hf, rfl⟩
      show rightB kd fs.length n = true
      unfold rightB
      rw [if_neg (by omega)]
      by_cases e2 : kd = 2
      · rw [if_neg (by omega), if_pos e2, hf, h2 e2]
        rfl
      · rw [if_pos (by omega), hf, decide_eq_true (by omega)]
        simp
theorem heap_j4 (k : Nat) (x0 x4 : List S71) (x5 x6 : Int) (m : Nat) (kd tg bad : Int) (fs : List Int) (hk : 1 ≤ kd ∧ kd ≤ 5) (hm : m ≤ 12) (hf : m ≤ fs.length) (h2 : kd = 2 → m ≤ 1) (h4 : x4.length ≤ 1000) (hw : ∀ y ∈ fs, i64 y) :
    ∃ o, Fine o ∧ Pa.kindlingref04_Heap.j4 (k + 2) x0 x4 x5 x6 (m : Int) kd tg fs bad = Pa.kindlingref04_Heap.l0 k x0 (x4 ++ [o]) (wrap64 (wrap64 (x5 + 1) + (o.f2.length : Int))) (wrap64 (x6 + 1)) := by
  rw [show k + 2 = (k + 1) + 1 from rfl, Pa.kindlingref04_Heap.j4, Option.bind_some, if_pos (by omega), if_pos (by omega), if_pos (by rw [Int.toNat_natCast, List.length_take]; simp; omega)]
  by_cases e0 : (m : Int) = 0
  · rw [if_pos e0]
    obtain ⟨o, h1, h2', h3⟩ := heap_j5 k x0 x4 x5 x6 1 kd tg bad [-1] hk (by omega) rfl (fun _ => rfl) h4 (fun y hy => by rw [List.mem_singleton] at hy; subst hy; rfl)
    refine ⟨o, h1, ?_⟩
    rw [h2']
    exact h3
  · rw [if_neg e0]
    obtain ⟨o, h1, h2', h3⟩ := heap_j5 k x0 x4 x5 x6 m kd tg bad (([] : List Int) ++ fs.take ((m : Int)).toNat) hk (by omega) (by rw [List.nil_append, Int.toNat_natCast, List.length_take]; omega) (fun e => by have := h2 e; omega) h4 (fun y hy => hw y (by
      rw [List.nil_append] at hy
      exact List.mem_of_mem_take hy))
    refine ⟨o, h1, ?_⟩
    rw [h2']
    exact h3
theorem heap_j2 (k : Nat) (x0 x4 : List S71) (x5 x6 : Int) (m : Nat) (kd tg bad : Int) (fs : List Int) (hk : 1 ≤ kd ∧ kd ≤ 5) (hm : m ≤ 12) (hf : m ≤ fs.length) (h4 : x4.length ≤ 1000) (hw : ∀ y ∈ fs, i64 y) :
    ∃ o, Fine o ∧ Pa.kindlingref04_Heap.j2 (k + 4) x0 x4 x5 x6 (m : Int) kd tg fs bad = Pa.kindlingref04_Heap.l0 k x0 (x4 ++ [o]) (wrap64 (wrap64 (x5 + 1) + (o.f2.length : Int))) (wrap64 (x6 + 1)) := by
  rw [show k + 4 = (k + 3) + 1 from rfl, Pa.kindlingref04_Heap.j2]
  by_cases e2 : kd = 2
  · rw [if_pos e2, show k + 3 = (k + 2) + 1 from rfl, Pa.kindlingref04_Heap.j3]
    by_cases e1 : (m : Int) > 1
    · rw [decide_eq_true e1, if_pos rfl]
      exact heap_j4 k x0 x4 x5 x6 1 kd tg bad fs hk (by omega) (by omega) (fun _ => Nat.le_refl _) h4 hw
    · rw [decide_eq_false e1, if_neg (by decide)]
      exact heap_j4 k x0 x4 x5 x6 m kd tg bad fs hk hm hf (fun _ => by omega) h4 hw
  · rw [if_neg e2, show k + 3 = (k + 2) + 1 from rfl, Pa.kindlingref04_Heap.j3, if_neg (by decide)]
    exact heap_j4 k x0 x4 x5 x6 m kd tg bad fs hk hm hf (fun e => absurd e e2) h4 hw
theorem heap_step (k : Nat) (x0 x4 : List S71) (x5 : Int) (i : Nat) (hi : i < x0.length) (h40 : i < 40) (h4 : x4.length ≤ 1000) (hw : ∀ o ∈ x0, wf71 o) :
    ∃ o, Fine o ∧ Pa.kindlingref04_Heap.l0 (k + 6) x0 x4 x5 (i : Int) = Pa.kindlingref04_Heap.l0 k x0 (x4 ++ [o]) (wrap64 (wrap64 (x5 + 1) + (o.f2.length : Int))) (wrap64 ((i : Int) + 1)) := by
  obtain ⟨r, hr, hr5⟩ := among_f x0[i].f0 5 (by decide) (by decide)
  rw [show k + 6 = (k + 5) + 1 from rfl, Pa.kindlingref04_Heap.l0, if_pos (by omega), show k + 5 = (k + 4) + 1 from rfl, Pa.kindlingref04_Heap.j1, decide_eq_true (by omega), if_pos rfl, if_pos (by omega), if_pos (by omega), rd_at x0 i hi, hr, Option.bind_some,
    w64 (show -9223372036854775808 ≤ 1 + (r : Int) ∧ 1 + (r : Int) ≤ 9223372036854775807 by omega)]
  have hwo := (hw _ (List.getElem_mem hi)).2.2.2
  by_cases e : (x0[i].f2.length : Int) > 12
  · rw [if_pos e]
    exact heap_j2 k x0 x4 x5 i 12 (1 + r) x0[i].f1 x0[i].f3 x0[i].f2 (by omega) (by omega) (by omega) h4 hwo
  · rw [if_neg e]
    exact heap_j2 k x0 x4 x5 i x0[i].f2.length (1 + r) x0[i].f1 x0[i].f3 x0[i].f2 (by omega) (by omega) (Nat.le_refl _) h4 hwo
theorem adr_snoc (l : List S71) (o : S71) : adr (l ++ [o]) (l ++ [o]).length = adr l l.length + (o.f2.length + 1) := by
  unfold adr
  rw [List.take_length, List.take_length, List.map_append, List.sum_append]
  simp
theorem adr_le (l : List S71) (h : ∀ o ∈ l, Fine o) : adr l l.length ≤ 13 * l.length := by
  unfold adr
  rw [List.take_length]
  induction l with
  | nil => simp
  | cons o l ih =>
    have h1 := ih (fun o h' => h o (List.mem_cons_of_mem _ h'))
    have h2 := (h o List.mem_cons_self).n
    simp only [List.map_cons, List.sum_cons, List.length_cons]
    omega
theorem heap_all (x0 : List S71) (hw : ∀ o ∈ x0, wf71 o) : ∀ (d i : Nat) (x4 : List S71), i + d = min x0.length 40 → x4.length = i → (∀ o ∈ x4, Fine o) →
    ∃ l, Pa.kindlingref04_Heap.l0 (6 * d + 2) x0 x4 (64 + (adr x4 x4.length : Int)) (i : Int) = some (l, 64 + (adr l l.length : Int)) ∧ l.length ≤ 40 ∧ (∀ o ∈ l, Fine o) := by
  intro d
  induction d with
  | zero =>
    intro i x4 hi hl hf
    refine ⟨x4, ?_, by omega, hf⟩
    rw [show 6 * 0 + 2 = 1 + 1 from rfl, Pa.kindlingref04_Heap.l0]
    by_cases e : (i : Int) < (x0.length : Int)
    · rw [if_pos e, show (1 : Nat) = 0 + 1 from rfl, Pa.kindlingref04_Heap.j1, decide_eq_false (by omega), if_neg (by decide)]
    · rw [if_neg e, show (1 : Nat) = 0 + 1 from rfl, Pa.kindlingref04_Heap.j1, if_neg (by decide)]
  | succ d ih =>
    intro i x4 hi hl hf
    have hal := adr_le x4 hf
    obtain ⟨o, ho, hs⟩ := heap_step (6 * d + 2) x0 x4 (64 + (adr x4 x4.length : Int)) i (by omega) (by omega) (by omega) hw
    have hon := ho.n
    rw [show 6 * (d + 1) + 2 = (6 * d + 2) + 6 by omega, hs]
    have e1 : wrap64 (wrap64 (64 + (adr x4 x4.length : Int) + 1) + (o.f2.length : Int)) = 64 + (adr (x4 ++ [o]) (x4 ++ [o]).length : Int) := by
      rw [adr_snoc, w64 (n := 64 + (adr x4 x4.length : Int) + 1) (by omega), w64 (by omega)]
      omega
    have e2 : wrap64 ((i : Int) + 1) = ((i + 1 : Nat) : Int) := by rw [w64 (by omega)]; omega
    rw [e1, e2]
    exact ih (i + 1) (x4 ++ [o]) (by omega) (by simp [hl]) (fun p hp => by
      rw [List.mem_append, List.mem_singleton] at hp
      rcases hp with hp | rfl
      · exact hf p hp
      · exact ho)
/-- ref.Heap of any list. -/
theorem heap_f (x0 : List S71) (hw : ∀ o ∈ x0, wf71 o) : ∃ m l, Pa.kindlingref04_Heap.f m x0 = some (l, 64 + (adr l l.length : Int)) ∧ l.length ≤ 40 ∧ (∀ o ∈ l, Fine o) := by
  obtain ⟨l, h1, h2, h3⟩ := heap_all x0 hw (min x0.length 40) 0 [] (by omega) rfl (fun o h => by cases h)
  exact ⟨_, l, h1, h2, h3⟩
def u64 (x : Int) : Prop := 0 ≤ x ∧ x < 18446744073709551616
theorem wrap_u64 (x : Int) : u64 (IntKind.u64.wrap x) := by
  rw [IntKind.wrap_u64]
  unfold u64
  omega
theorem number_f (v : Int) : ∃ r, Pa.kindlingref04_Number.f v = some r := by
  unfold Pa.kindlingref04_Number.f
  split <;> exact ⟨_, rfl⟩
theorem int_f (v : Int) : ∃ r, Pa.kindlingref01_Int.f v = some r ∧ u64 r := by
  unfold Pa.kindlingref01_Int.f Pa.kindlingref01_Wrap.f
  split
  · exact ⟨_, rfl, wrap_u64 _⟩
  · split <;> exact ⟨_, rfl, wrap_u64 _⟩
theorem refptr_f (v : Int) : ∃ r, Pa.kindlingref01_Ptr.f v = some r ∧ u64 r := by
  unfold Pa.kindlingref01_Ptr.f
  split
  · exact ⟨1, rfl, by unfold u64; omega⟩
  · split
    · exact ⟨1, rfl, by unfold u64; omega⟩
    · exact ⟨_, rfl, wrap_u64 _⟩
theorem at_100 (l : List S71) (hl : l.length ≤ 40) (hf : ∀ o ∈ l, Fine o) (k : Nat) (hk : k ≤ l.length) : Pa.kindlingref04_At.f 100 l (k : Int) = some (1 + (adr l k : Int)) := by
  have h1 := adr_le l hf
  have h2 := adr_mono l k (l.length - k)
  rw [show k + (l.length - k) = l.length by omega] at h2
  have h := at_f l k (99 - k) hk (by omega) (by omega)
  rw [show k + 1 + (99 - k) = 100 by omega] at h
  exact h
theorem word_f (l : List S71) (hl : l.length ≤ 40) (hf : ∀ o ∈ l, Fine o) (k : Nat) (hk : k < l.length) (f : Nat) (hfl : f < l[k].f2.length) : ∃ v, Pa.kindlingref04_Word.f 100 l (k : Int) (f : Int) = some v ∧ u64 v := by
  have hn := (hf _ (List.getElem_mem hk)).n
  unfold Pa.kindlingref04_Word.f
  rw [if_pos (by omega), if_pos (by omega), if_pos (by omega), rd_at l k hk, if_pos (by omega)]
  split
  · exact ⟨_, rfl, wrap_u64 _⟩
  · split
    · obtain ⟨r, hr, -⟩ := refptr_f (1 + (adr l k : Int))
      rw [at_100 l hl hf k (by omega), Option.bind_some, hr, Option.bind_some]
      exact ⟨_, rfl, wrap_u64 _⟩
    · split
      · obtain ⟨r, hr⟩ := number_f (rd l[k].f2 (f : Int))
        obtain ⟨s, hs, hu⟩ := int_f r
        rw [hr, Option.bind_some, hs, Option.bind_some]
        exact ⟨_, rfl, hu⟩
      · obtain ⟨r, hr, hrn⟩ := among_f (rd l[k].f2 (f : Int)) (l.length : Int) (by omega) (by omega)
        obtain ⟨s, hs, hu⟩ := refptr_f (1 + (adr l r : Int))
        rw [hr, Option.bind_some, at_100 l hl hf r (by omega), Option.bind_some, hs, Option.bind_some]
        exact ⟨_, rfl, hu⟩
/-- The words of a list's fields. -/
def wvOf (l : List S71) (k f : Nat) : Int := match Pa.kindlingref04_Word.f 100 l (k : Int) (f : Int) with
  | some v => if 0 ≤ v ∧ v < 18446744073709551616 then v else 0
  | none => 0
theorem fine_gl (l : List S71) (hl : l.length ≤ 40) (hf : ∀ o ∈ l, Fine o) : Gl (wvOf l) l (64 + (adr l l.length : Int)) where
  len := by omega
  r := fun o ho => (hf o ho).r
  fit := by omega
  n := by have := adr_le l hf; omega
  wr := by
    intro k f
    unfold wvOf
    split
    · split
      · assumption
      · omega
    · omega
  wd := by
    intro k hk f hfl
    obtain ⟨v, hv, hu⟩ := word_f l hl hf k hk f hfl
    refine ⟨100, ?_⟩
    unfold wvOf
    rw [hv]
    simp only
    rw [if_pos (show 0 ≤ v ∧ v < 18446744073709551616 from hu)]
theorem root_f (l : List S71) (hl : l.length ≤ 40) (hf : ∀ o ∈ l, Fine o) (v : Int) : ∃ r, Pa.kindlingref04_Root.f 101 l v = some r ∧ u64 r := by
  unfold Pa.kindlingref04_Root.f
  split
  · exact ⟨0, rfl, by unfold u64; omega⟩
  · have go : ∀ b, (b = false → v < 0 ∨ l.length ≠ 0) → ∃ r, Pa.kindlingref04_Root.j0 101 l v b = some r ∧ u64 r := by
      intro b hb
      rw [show (101 : Nat) = 100 + 1 from rfl, Pa.kindlingref04_Root.j0]
      cases b with
      | true => exact ⟨1, rfl, by unfold u64; omega⟩
      | false =>
        rw [if_neg (by decide)]
        split
        · obtain ⟨r, hr⟩ := number_f v
          obtain ⟨s, hs, hu⟩ := int_f r
          rw [hr, Option.bind_some, hs, Option.bind_some]
          exact ⟨_, rfl, hu⟩
        · rename_i h
          have h2 := hb rfl
          obtain ⟨r, hr, hrn⟩ := among_f v (l.length : Int) (by omega) (by omega)
          obtain ⟨s, hs, hu⟩ := refptr_f (1 + (adr l r : Int))
          rw [hr, Option.bind_some, at_100 l hl hf r (by omega), Option.bind_some, hs, Option.bind_some]
          exact ⟨_, rfl, hu⟩
    split
    · exact go _ (fun h => by have := of_decide_eq_false h; omega)
    · rename_i h
      exact go _ (fun _ => .inr (by omega))
/-- The words of some roots. -/
theorem words_f (l : List S71) (hl : l.length ≤ 40) (hf : ∀ o ∈ l, Fine o) (rs : List Int) : ∃ xs, Pa.kindlinglaw04_words.f 200 l rs = some xs ∧ xs.length ≤ 50 ∧ ∀ x ∈ xs, u64 x := by
  have key : ∀ (d i : Nat) (acc : List Int), i + d = min rs.length 50 → acc.length = i → (∀ x ∈ acc, u64 x) → ∃ xs, Pa.kindlinglaw04_words.l0 (200 - i) l rs acc (i : Int) = some xs ∧ xs.length ≤ 50 ∧ ∀ x ∈ xs, u64 x := by
    intro d
    induction d with
    | zero =>
      intro i acc hi ha hu
      refine ⟨acc, ?_, by omega, hu⟩
      rw [show 200 - i = (199 - i) + 1 by omega, Pa.kindlinglaw04_words.l0]
      by_cases e : (i : Int) < (rs.length : Int)
      · rw [if_pos e, if_neg (by omega)]
      · rw [if_neg e]
    | succ d ih =>
      intro i acc hi ha hu
      obtain ⟨r, hr, hru⟩ := root_f l hl hf (rd rs (i : Int))
      have hmono : Pa.kindlingref04_Root.f (199 - i) l (rd rs (i : Int)) = some r := by
        have hm := Pa.kindlingref04_Root.mono
        obtain ⟨e, he⟩ : ∃ e, 199 - i = 101 + e := ⟨199 - i - 101, by omega⟩
        rw [he]
        clear he
        induction e with
        | zero => exact hr
        | succ e ihe => exact hm _ _ _ _ ihe
      rw [show 200 - i = (199 - i) + 1 by omega, Pa.kindlinglaw04_words.l0, if_pos (by omega), if_pos (by omega), if_pos (by omega), hmono, Option.bind_some, if_pos (by omega), w64 (by omega)]
      have h := ih (i + 1) (acc ++ [r]) (by omega) (by simp [ha]) (fun x hx => by
        rw [List.mem_append, List.mem_singleton] at hx
        rcases hx with hx | rfl
        · exact hu x hx
        · exact hru)
      rw [show 200 - (i + 1) = 199 - i by omega] at h
      exact h
  exact key (min rs.length 50) 0 [] (by omega) rfl (fun x h => by cases h)
end Go.Proofs.Ytjccaojlldkmpaa.Mem
/- Closed sets; behind a collection the same can be reached, in the same order. -/
namespace Go.Proofs.Ytjccaojlldkmpaa.Mem
open Go.RowKit
open Hf (rightB hdr headOf partsOf)
set_option linter.unusedSimpArgs false
set_option linter.unusedVariables false
variable {f : Int} {os : List O}
/-- A word that is an integer's, or of an object of the set. -/
def Good (C : List Int) (x : Int) : Prop := x % 2 = 1 ∨ x / 2 ∈ C
/-- A set of objects whose fields lead to it alone. -/
structure Shut (f : Int) (os : List O) (C : List Int) : Prop where
  sub : ∀ a ∈ C, a ∈ heads f os
  all : ∀ a ∈ C, ∀ x ∈ tg f os a, Good C x
theorem add1_in {C l : List Int} {x : Int} (h : ∀ a ∈ C, a ∈ heads f os) (hl : ∀ a ∈ l, a ∈ C) (hx : Good C x) : ∃ l', add1 f os l x = some l' ∧ ∀ a ∈ l', a ∈ C := by
  unfold add1
  by_cases h1 : x % 2 = 1
  · rw [if_pos h1]; exact ⟨l, rfl, hl⟩
  · have h2 : x / 2 ∈ C := by
      rcases hx with hx | hx
      · exact absurd hx h1
      · exact hx
    rw [if_neg h1, if_pos (h _ h2)]
    by_cases h3 : x / 2 ∈ l
    · rw [if_pos h3]; exact ⟨l, rfl, hl⟩
    · rw [if_neg h3]
      refine ⟨_, rfl, fun a ha => ?_⟩
      rw [List.mem_append, List.mem_singleton] at ha
      rcases ha with ha | rfl
      · exact hl a ha
      · exact h2
theorem addP_in {C : List Int} (h : ∀ a ∈ C, a ∈ heads f os) (xs : List Int) : ∀ {l : List Int}, (∀ a ∈ l, a ∈ C) → (∀ x ∈ xs, Good C x) → (addP f os l xs).2 = true ∧ ∀ a ∈ (addP f os l xs).1, a ∈ C := by
  induction xs with
  | nil => intro l hl _; exact ⟨rfl, hl⟩
  | cons x xs ih =>
    intro l hl hx
    obtain ⟨l', e, hl'⟩ := add1_in h hl (hx x List.mem_cons_self)
    rw [addP_yes e]
    exact ih hl' (fun y hy => hx y (List.mem_cons_of_mem _ hy))
theorem goP_in {C : List Int} (h : Shut f os C) (n : Nat) : ∀ (i : Nat) {l : List Int}, (∀ a ∈ l, a ∈ C) → (goP f os n i l).2 = true ∧ ∀ a ∈ (goP f os n i l).1, a ∈ C := by
  induction n with
  | zero => intro i l hl; exact ⟨rfl, hl⟩
  | succ n ih =>
    intro i l hl
    rw [goP]
    cases e : l[i]? with
    | none => exact ⟨rfl, hl⟩
    | some a =>
      have ha : a ∈ C := hl a (List.mem_of_getElem? e)
      obtain ⟨h1, h2⟩ := addP_in h.sub (tg f os a) hl (h.all a ha)
      simp only [h1, if_true]
      exact ih (i + 1) h2
theorem walkP_in {C xs : List Int} (h : Shut f os C) (hx : ∀ x ∈ xs, Good C x) : (walkP f os xs).2 = true ∧ ∀ a ∈ (walkP f os xs).1, a ∈ C := by
  obtain ⟨h1, h2⟩ := addP_in h.sub xs (l := []) (fun a ha => by cases ha) hx
  unfold walkP
  rw [if_pos h1]
  exact goP_in h _ 0 h2
theorem add1_good {l l' : List Int} {x : Int} (e : add1 f os l x = some l') : Good l' x := by
  by_cases h1 : x % 2 = 1
  · exact .inl h1
  · obtain ⟨h2, ⟨h3, rfl⟩ | ⟨h3, rfl⟩⟩ := add1_even h1 e
    · exact .inr h3
    · exact .inr (by simp)
theorem Good.mono {C D : List Int} {x : Int} (h : Good C x) (hs : ∀ a ∈ C, a ∈ D) : Good D x := h.imp id (fun h => hs _ h)
theorem addP_good (xs : List Int) : ∀ {l : List Int}, Ord f os l → (addP f os l xs).2 = true → ∀ x ∈ xs, Good (addP f os l xs).1 x := by
  induction xs with
  | nil => intro l _ _ x hx; cases hx
  | cons y xs ih =>
    intro l hl h x hx
    cases e : add1 f os l y with
    | none => rw [addP_no e] at h; cases h
    | some l' =>
      rw [addP_yes e] at h ⊢
      have ho := (hl.add1 e).1
      rcases List.mem_cons.1 hx with rfl | hx
      · exact (add1_good e).mono (fun a ha => (ho.addP xs).2.subset ha)
      · exact ih ho h x hx
/-- A walk that went well ends in a closed set. -/
theorem walk_shut {xs L : List Int} (h : walkP f os xs = (L, true)) : Shut f os L ∧ ∀ x ∈ xs, Good L x := by
  obtain ⟨h1, h2, h3, h4⟩ := walk_run h
  have hpre : ∀ k, k ≤ L.length → ∀ a ∈ it f os (addP f os [] xs).1 k, a ∈ L := fun k hk a ha => by
    have := it_pre h2 k (L.length - k)
    rw [show k + (L.length - k) = L.length by omega, h4] at this
    exact this.subset ha
  refine ⟨⟨fun a ha => ?_, fun a ha x hx => ?_⟩, fun x hx => ?_⟩
  · have hO := it_ord h2 L.length
    rw [h4] at hO
    exact hO.sub a ha
  · obtain ⟨k, hk, rfl⟩ := List.mem_iff_getElem.1 ha
    obtain ⟨p1, p2⟩ := h3 k hk
    have e : (it f os (addP f os [] xs).1 k).getD k 0 = L[k] := by
      have hp := it_pre h2 k (L.length - k)
      rw [show k + (L.length - k) = L.length by omega, h4] at hp
      rw [prefix_get hp k p1 hk]
      simp [List.getD, p1]
    have hg := addP_good _ (it_ord h2 k) p2
    rw [e] at hg
    refine (hg x hx).mono (fun b hb => hpre (k + 1) (by omega) b ?_)
    rw [it_succ, e]
    exact hb
  · exact (addP_good xs (Ord.nil f os) h1 x hx).mono (hpre 0 (Nat.zero_le _))
/-- Words that lead to what is there change nothing. -/
theorem addP_same {l : List Int} (hl : ∀ a ∈ l, a ∈ heads f os) (xs : List Int) (hx : ∀ x ∈ xs, Good l x) : addP f os l xs = (l, true) := by
  induction xs with
  | nil => rfl
  | cons y xs ih =>
    have e : add1 f os l y = some l := by
      unfold add1
      by_cases h1 : y % 2 = 1
      · rw [if_pos h1]
      · have h2 : y / 2 ∈ l := by
          rcases hx y List.mem_cons_self with h | h
          · exact absurd h h1
          · exact h
        rw [if_neg h1, if_pos (hl _ h2), if_pos h2]
    rw [addP_yes e]
    exact ih (fun x h => hx x (List.mem_cons_of_mem _ h))
theorem walk_twice {xs L : List Int} (h : walkP f os xs = (L, true)) : walkP f os (xs ++ xs) = (L, true) := by
  obtain ⟨h1, h2, -, -⟩ := walk_run h
  have h3 : addP f os [] (xs ++ xs) = addP f os [] xs := by
    rw [addP_append, if_pos h1, addP_same h2.sub xs (addP_good xs (Ord.nil f os) h1)]
    exact Prod.ext rfl h1.symm
  unfold walkP at h ⊢
  rw [h3]
  exact h
theorem tot_sub (ns : List Nat) : ∀ (l l' : List Nat), l.Nodup → (∀ a ∈ l, a ∈ l') → tot ns l ≤ tot ns l'
  | [], l', _, _ => Nat.zero_le _
  | a :: l, l', hn, hs => by
    rw [List.nodup_cons] at hn
    have ha := hs a List.mem_cons_self
    have h1 := tot_erase ns a l' ha
    have h2 := tot_sub ns l (l'.erase a) hn.2 (fun b hb => by
      have hne : b ≠ a := fun e => hn.1 (by rw [← e]; exact hb)
      exact (List.mem_erase_of_ne hne).2 (hs b (List.mem_cons_of_mem _ hb)))
    have h3 : tot ns (a :: l) = (ns.getD a 0 + 1) + tot ns l := by simp [tot]
    omega
theorem flat_tot {l : List Int} (h : Ord f os l) : (flat (l.map (obAt f os))).length = tot (os.map (fun o => o.fs.length)) (l.map (fun a => (heads f os).idxOf a)) := by
  rw [flat_len]
  unfold tot
  rw [List.map_map, List.map_map, List.map_map]
  congr 1
  apply List.map_congr_left
  intro a ha
  obtain ⟨i, hi, rfl⟩ := mem_heads.1 (h.sub a ha)
  simp only [Function.comp_def, obAt_at f os i hi, heads_idx f os i hi]
  simp [List.getD, hi]
theorem idx_nodup {l : List Int} (h : Ord f os l) : (l.map (fun a => (heads f os).idxOf a)).Nodup := by
  rw [List.Nodup, List.pairwise_map]
  refine List.Pairwise.imp_of_mem ?_ h.nd
  intro a b ha hb hab e
  obtain ⟨i, hi, rfl⟩ := mem_heads.1 (h.sub a ha)
  obtain ⟨j, hj, rfl⟩ := mem_heads.1 (h.sub b hb)
  rw [heads_idx f os i hi, heads_idx f os j hj] at e
  exact hab (by rw [e])
/-- More roots reach no less. -/
theorem walk_grows {xs ys L : List Int} (h : walkP f os (xs ++ ys) = (L, true)) : ∃ K, walkP f os xs = (K, true) ∧ (flat (K.map (obAt f os))).length ≤ (flat (L.map (obAt f os))).length := by
  obtain ⟨h1, h2⟩ := walk_shut h
  obtain ⟨h3, h4⟩ := walkP_in h1 (fun x hx => h2 x (List.mem_append_left _ hx))
  refine ⟨(walkP f os xs).1, Prod.ext rfl h3, ?_⟩
  have hK := Ord.walkP f os xs
  have hL : Ord f os L := by have := Ord.walkP f os (xs ++ ys); rw [h] at this; exact this
  rw [flat_tot hK, flat_tot hL]
  apply tot_sub _ _ _ (idx_nodup hK)
  intro a ha
  obtain ⟨b, hb, rfl⟩ := List.mem_map.1 ha
  exact List.mem_map.2 ⟨b, h4 b hb, rfl⟩
end Go.Proofs.Ytjccaojlldkmpaa.Mem

namespace Go.Proofs.Ytjccaojlldkmpaa.Mem
open Go.RowKit
open Hf (rightB hdr headOf partsOf)
set_option linter.unusedSimpArgs false
set_option linter.unusedVariables false
variable {f f1 : Int} {os ex : List O} {L : List Int}
/-- Where an object goes. -/
def na (f1 f : Int) (os : List O) (L : List Int) (a : Int) : Int := f1 + (pos (L.map (obAt f os)) (L.idxOf a) : Int)
/-- The objects behind the collection. -/
def col (f1 f : Int) (os : List O) (L : List Int) : List O := L.map fun a => mapO (cw f1 f os L) (obAt f os a).tag.toNat (obAt f os a)
theorem col_lens (f1 f : Int) (os : List O) (L : List Int) : (col f1 f os L).map (fun o => o.fs.length) = (L.map (obAt f os)).map (fun o => o.fs.length) := by
  unfold col
  rw [List.map_map, List.map_map]
  apply List.map_congr_left
  intro a _
  exact mapO_len _ _ _
theorem col_flat (f1 f : Int) (os : List O) (L : List Int) : (flat (col f1 f os L)).length = (flat (L.map (obAt f os))).length := by rw [flat_len, flat_len, col_lens]
theorem col_len (f1 f : Int) (os : List O) (L : List Int) : (col f1 f os L).length = L.length := by simp [col]
theorem pos_ext (a b : List O) (p : Nat) (h : p ≤ a.length) : pos (a ++ b) p = pos a p := by
  unfold pos
  rw [List.take_append_of_le_length h]
theorem na_pos (hL : Ord f os L) (i : Nat) (hi : i < L.length) : na f1 f os L L[i] = f1 + (pos (col f1 f os L ++ ex) i : Int) := by
  unfold na
  rw [hL.nd.idxOf_getElem i hi, pos_ext _ _ _ (by rw [col_len]; omega), pos_lens (col_lens f1 f os L)]
theorem na_head (hL : Ord f os L) {a : Int} (ha : a ∈ L) : na f1 f os L a ∈ heads f1 (col f1 f os L ++ ex) := by
  obtain ⟨i, hi, rfl⟩ := List.mem_iff_getElem.1 ha
  exact mem_heads.2 ⟨i, by rw [List.length_append, col_len]; omega, na_pos hL i hi⟩
theorem na_inj (hL : Ord f os L) {a b : Int} (ha : a ∈ L) (hb : b ∈ L) (e : na f1 f os L a = na f1 f os L b) : a = b := by
  obtain ⟨i, hi, rfl⟩ := List.mem_iff_getElem.1 ha
  obtain ⟨j, hj, rfl⟩ := List.mem_iff_getElem.1 hb
  rw [na_pos (ex := []) hL i hi, na_pos (ex := []) hL j hj] at e
  have h : i = j := pos_inj (os := col f1 f os L ++ []) (by rw [List.length_append, col_len]; omega) (by rw [List.length_append, col_len]; omega) (by omega)
  subst h
  rfl
theorem cw_odd {x : Int} (h : x % 2 = 1) : cw f1 f os L x = x := if_pos h
theorem cw_even {x : Int} (h : ¬ x % 2 = 1) : cw f1 f os L x = 2 * na f1 f os L (x / 2) := if_neg h
theorem take_map (c : Int → Int) (fs : List Int) (q : Nat) : ((fs.take q).map c ++ fs.drop q).take q = (fs.take q).map c := by
  by_cases h : q ≤ fs.length
  · exact List.take_left' (by rw [List.length_map, List.length_take]; omega)
  · rw [List.drop_of_length_le (by omega), List.append_nil, List.take_of_length_le (by rw [List.length_map, List.length_take]; omega)]
theorem na_tg (hL : Ord f os L) {a : Int} (ha : a ∈ L) : tg f1 (col f1 f os L ++ ex) (na f1 f os L a) = (tg f os a).map (cw f1 f os L) := by
  obtain ⟨i, hi, rfl⟩ := List.mem_iff_getElem.1 ha
  have hic : i < (col f1 f os L ++ ex).length := by rw [List.length_append, col_len]; omega
  have hget : (col f1 f os L ++ ex)[i] = mapO (cw f1 f os L) (obAt f os L[i]).tag.toNat (obAt f os L[i]) := by
    rw [List.getElem_append_left (by rw [col_len]; exact hi)]
    simp [col]
  rw [na_pos (ex := ex) hL i hi, tg_at f1 _ i hic, hget, tg_obAt f os L[i] (hL.sub _ ha)]
  exact take_map _ _ _
theorem add1_iso (hL : Ord f os L) {l : List Int} (hl : ∀ a ∈ l, a ∈ L) {x : Int} (hx : Good L x) : add1 f1 (col f1 f os L ++ ex) (l.map (na f1 f os L)) (cw f1 f os L x) = (add1 f os l x).map (fun l => l.map (na f1 f os L)) := by
  unfold add1
  by_cases h1 : x % 2 = 1
  · rw [cw_odd h1, if_pos h1, if_pos h1]
    rfl
  · have h2 : x / 2 ∈ L := by
      rcases hx with hx | hx
      · exact absurd hx h1
      · exact hx
    rw [cw_even h1, if_neg (by omega), show 2 * na f1 f os L (x / 2) / 2 = na f1 f os L (x / 2) by omega, if_pos (na_head hL h2), if_neg h1, if_pos (hL.sub _ h2)]
    by_cases h3 : x / 2 ∈ l
    · rw [if_pos h3, if_pos (List.mem_map.2 ⟨_, h3, rfl⟩)]
      rfl
    · rw [if_neg h3, if_neg (fun h => by
        obtain ⟨b, hb, e⟩ := List.mem_map.1 h
        exact h3 (na_inj hL (hl b hb) h2 e ▸ hb))]
      simp
theorem addP_iso (hL : Ord f os L) (xs : List Int) : ∀ {l : List Int}, (∀ a ∈ l, a ∈ L) → (∀ x ∈ xs, Good L x) →
    addP f1 (col f1 f os L ++ ex) (l.map (na f1 f os L)) (xs.map (cw f1 f os L)) = ((addP f os l xs).1.map (na f1 f os L), (addP f os l xs).2) := by
  induction xs with
  | nil => intro l _ _; rfl
  | cons x xs ih =>
    intro l hl hx
    obtain ⟨l', e, hl'⟩ := add1_in hL.sub hl (hx x List.mem_cons_self)
    have e2 := add1_iso (f1 := f1) (ex := ex) hL hl (hx x List.mem_cons_self)
    rw [e] at e2
    rw [List.map_cons, addP_yes e2, addP_yes e]
    exact ih hl' (fun y hy => hx y (List.mem_cons_of_mem _ hy))
/-- The same walk behind the collection. -/
theorem walk_iso {xs : List Int} (h : walkP f os xs = (L, true)) : walkP f1 (col f1 f os L ++ ex) (xs.map (cw f1 f os L)) = (L.map (na f1 f os L), true) := by
  obtain ⟨h1, h2, h3, h4⟩ := walk_run h
  obtain ⟨hs, hg⟩ := walk_shut h
  have hL : Ord f os L := by have := Ord.walkP f os xs; rw [h] at this; exact this
  have hpre : ∀ k, k ≤ L.length → ∀ a ∈ it f os (addP f os [] xs).1 k, a ∈ L := fun k hk a ha => by
    have := it_pre h2 k (L.length - k)
    rw [show k + (L.length - k) = L.length by omega, h4] at this
    exact this.subset ha
  have hr := addP_iso (f1 := f1) (ex := ex) hL xs (l := []) (fun a ha => by cases ha) hg
  rw [List.map_nil, h1] at hr
  have go : ∀ d k m, k + d = L.length → d + 1 ≤ m → goP f1 (col f1 f os L ++ ex) m k ((it f os (addP f os [] xs).1 k).map (na f1 f os L)) = (L.map (na f1 f os L), true) := by
    intro d
    induction d with
    | zero =>
      intro k m hk hm
      obtain ⟨m, rfl⟩ : ∃ m', m = m' + 1 := ⟨m - 1, by omega⟩
      obtain rfl : k = L.length := by omega
      rw [h4, goP, List.getElem?_eq_none (by rw [List.length_map]; exact Nat.le_refl _)]
    | succ d ih =>
      intro k m hk hm
      obtain ⟨m, rfl⟩ : ∃ m', m = m' + 1 := ⟨m - 1, by omega⟩
      obtain ⟨p1, p2⟩ := h3 k (by omega)
      have ha : (it f os (addP f os [] xs).1 k)[k] ∈ L := hpre k (by omega) _ (List.getElem_mem p1)
      have e : (it f os (addP f os [] xs).1 k).getD k 0 = (it f os (addP f os [] xs).1 k)[k] := by simp [List.getD, p1]
      rw [e] at p2
      have hi := addP_iso (f1 := f1) (ex := ex) hL (tg f os (it f os (addP f os [] xs).1 k)[k]) (hpre k (by omega)) (hs.all _ ha)
      rw [← na_tg (f1 := f1) (ex := ex) hL ha, p2] at hi
      rw [goP, List.getElem?_map, List.getElem?_eq_getElem p1]
      simp only [Option.map_some, hi, if_true]
      have := ih (k + 1) m (by omega) (by omega)
      rw [it_succ, e] at this
      exact this
  unfold walkP
  rw [hr]
  simp only [if_true]
  have hlen : L.length ≤ (col f1 f os L ++ ex).length := by rw [List.length_append, col_len]; omega
  exact go L.length 0 _ (by omega) (by omega)
/-- What is reached needs as much as before. -/
theorem iso_flat (hL : Ord f os L) : (flat ((L.map (na f1 f os L)).map (obAt f1 (col f1 f os L ++ ex)))).length = (flat (L.map (obAt f os))).length := by
  have e : ((L.map (na f1 f os L)).map (obAt f1 (col f1 f os L ++ ex))).map (fun o => o.fs.length) = (L.map (obAt f os)).map (fun o => o.fs.length) := by
    rw [List.map_map, List.map_map, List.map_map]
    apply List.map_congr_left
    intro a ha
    obtain ⟨i, hi, rfl⟩ := List.mem_iff_getElem.1 ha
    have hic : i < (col f1 f os L ++ ex).length := by rw [List.length_append, col_len]; omega
    have hget : (col f1 f os L ++ ex)[i] = mapO (cw f1 f os L) (obAt f os L[i]).tag.toNat (obAt f os L[i]) := by
      rw [List.getElem_append_left (by rw [col_len]; exact hi)]
      simp [col]
    show (obAt f1 (col f1 f os L ++ ex) (na f1 f os L L[i])).fs.length = (obAt f os L[i]).fs.length
    rw [na_pos (ex := ex) hL i hi, obAt_at f1 _ i hic, hget, mapO_len]
  rw [flat_len, flat_len, e]
end Go.Proofs.Ytjccaojlldkmpaa.Mem

namespace Go.Proofs.Ytjccaojlldkmpaa.Mem
open Go.RowKit
open Hf (rightB hdr headOf partsOf)
set_option linter.unusedSimpArgs false
set_option linter.unusedVariables false
set_option maxRecDepth 100000
variable {S : Nat → Prop} {w W W' w' : World} {g n B : Nat} {st : St}
theorem below_fr {w : World} (h : Below w.heap.size w W) {T : Nat → Prop} (fr : Fr T W W') (hT : ∀ k, T k → w.heap.size ≤ k) : Below w.heap.size w W' :=
  ⟨fr.low.os.trans h.os, fr.low.tape.trans h.tape, fr.low.output.trans h.output, Nat.le_trans h.size fr.low.size, fun k hk => (fr.same k (Nat.lt_of_lt_of_le hk h.size) (fun hs => by have := hT k hs; omega)).trans (h.block k hk)⟩
end Go.Proofs.Ytjccaojlldkmpaa.Mem
