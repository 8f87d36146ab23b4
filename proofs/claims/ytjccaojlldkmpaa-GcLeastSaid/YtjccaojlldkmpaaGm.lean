/- What can be reached: plain lists of addresses. -/
import Derived.Test.YtjccaojlldkmpaaMemA
namespace Go.Proofs.Ytjccaojlldkmpaa.Mem
open Go.RowKit
open Hf (rightB hdr headOf partsOf)
set_option linter.unusedSimpArgs false
set_option linter.unusedVariables false
/-- The tagged fields of the object at an address. -/
def tg (f : Int) (os : List O) (a : Int) : List Int := match os[(heads f os).idxOf a]? with
  | some o => o.fs.take o.tag.toNat
  | none => []
/-- One word more. -/
def add1 (f : Int) (os : List O) (l : List Int) (x : Int) : Option (List Int) :=
  if x % 2 = 1 then some l else if x / 2 ∈ heads f os then (if x / 2 ∈ l then some l else some (l ++ [x / 2])) else none
/-- Some words more: how far it went, and whether all were good. -/
def addP (f : Int) (os : List O) : List Int → List Int → List Int × Bool
  | l, [] => (l, true)
  | l, x :: xs => match add1 f os l x with
    | some l' => addP f os l' xs
    | none => (l, false)
theorem addP_yes {f : Int} {os : List O} {l l' xs : List Int} {x : Int} (e : add1 f os l x = some l') : addP f os l (x :: xs) = addP f os l' xs := by simp only [addP, e]
theorem addP_no {f : Int} {os : List O} {l xs : List Int} {x : Int} (e : add1 f os l x = none) : addP f os l (x :: xs) = (l, false) := by simp only [addP, e]
theorem addP_append (f : Int) (os : List O) (xs ys : List Int) : ∀ l, addP f os l (xs ++ ys) = if (addP f os l xs).2 then addP f os (addP f os l xs).1 ys else addP f os l xs := by
  induction xs with
  | nil => intro l; simp [addP]
  | cons x xs ih =>
    intro l
    rw [List.cons_append]
    cases e : add1 f os l x with
    | none => rw [addP_no e, addP_no e]; rfl
    | some l' => rw [addP_yes e, addP_yes e]; exact ih l'
theorem addP_snoc (f : Int) (os : List O) (l xs : List Int) (x : Int) (h : (addP f os l xs).2 = true) :
    addP f os l (xs ++ [x]) = ((add1 f os (addP f os l xs).1 x).getD (addP f os l xs).1, (add1 f os (addP f os l xs).1 x).isSome) := by
  rw [addP_append, if_pos h]
  simp only [addP]
  cases add1 f os (addP f os l xs).1 x <;> rfl
theorem addP_stop (f : Int) (os : List O) (l xs ys : List Int) (h : (addP f os l xs).2 = false) : addP f os l (xs ++ ys) = addP f os l xs := by
  rw [addP_append, h]; rfl
/-- From an object on. -/
def goP (f : Int) (os : List O) : Nat → Nat → List Int → List Int × Bool
  | 0, _, l => (l, true)
  | n + 1, i, l => match l[i]? with
    | none => (l, true)
    | some a => if (addP f os l (tg f os a)).2 then goP f os n (i + 1) (addP f os l (tg f os a)).1 else addP f os l (tg f os a)
/-- What can be reached. -/
def walkP (f : Int) (os : List O) (roots : List Int) : List Int × Bool :=
  if (addP f os [] roots).2 then goP f os (os.length + 1) 0 (addP f os [] roots).1 else addP f os [] roots
theorem heads_nodup (f : Int) (os : List O) : (heads f os).Nodup := by
  unfold heads
  rw [List.Nodup, List.pairwise_map]
  refine List.Pairwise.imp_of_mem ?_ List.pairwise_lt_range
  intro i j hi hj hij
  have := pos_lt os i j hij (Nat.le_of_lt (List.mem_range.1 hj))
  omega
theorem mem_heads {f : Int} {os : List O} {a : Int} : a ∈ heads f os ↔ ∃ i, i < os.length ∧ a = f + (pos os i : Int) := by
  unfold heads
  rw [List.mem_map]
  constructor
  · rintro ⟨i, hi, rfl⟩; exact ⟨i, List.mem_range.1 hi, rfl⟩
  · rintro ⟨i, hi, rfl⟩; exact ⟨i, List.mem_range.2 hi, rfl⟩
theorem heads_idx (f : Int) (os : List O) (i : Nat) (h : i < os.length) : (heads f os).idxOf (f + (pos os i : Int)) = i := by
  have hl : i < (heads f os).length := by rw [heads_length]; exact h
  have hg := heads_get f os i h
  rw [List.getElem?_eq_getElem hl] at hg
  have := (heads_nodup f os).idxOf_getElem i hl
  rw [Option.some.inj hg] at this
  exact this
theorem tg_at (f : Int) (os : List O) (i : Nat) (h : i < os.length) : tg f os (f + (pos os i : Int)) = os[i].fs.take os[i].tag.toNat := by
  unfold tg
  rw [heads_idx f os i h, List.getElem?_eq_getElem h]
theorem no_head {f : Int} {os : List O} {a : Int} (h : a ∉ heads f os) : NoHead f os a := fun i hi e => h (mem_heads.2 ⟨i, hi, e.symm⟩)
/-- A list of different objects. -/
structure Ord (f : Int) (os : List O) (l : List Int) : Prop where
  nd : l.Nodup
  sub : ∀ a ∈ l, a ∈ heads f os
theorem Ord.nil (f : Int) (os : List O) : Ord f os [] := ⟨List.nodup_nil, fun a h => absurd h (by simp)⟩
theorem Ord.len {f : Int} {os : List O} {l : List Int} (h : Ord f os l) : l.length ≤ os.length := by
  have := h.nd.length_le_of_subset (fun a ha => h.sub a ha)
  rwa [heads_length] at this
theorem Ord.add1 {f : Int} {os : List O} {l l' : List Int} {x : Int} (h : Ord f os l) (e : add1 f os l x = some l') : Ord f os l' ∧ l <+: l' := by
  unfold Mem.add1 at e
  by_cases h1 : x % 2 = 1
  · rw [if_pos h1] at e; cases e; exact ⟨h, List.prefix_refl _⟩
  · rw [if_neg h1] at e
    by_cases h2 : x / 2 ∈ heads f os
    · rw [if_pos h2] at e
      by_cases h3 : x / 2 ∈ l
      · rw [if_pos h3] at e; cases e; exact ⟨h, List.prefix_refl _⟩
      · rw [if_neg h3] at e
        cases e
        refine ⟨⟨?_, ?_⟩, List.prefix_append _ _⟩
        · rw [List.nodup_append]
          refine ⟨h.nd, by simp, ?_⟩
          intro a ha b hb e
          rw [List.mem_singleton] at hb
          exact h3 (hb ▸ e ▸ ha)
        · intro a ha
          rw [List.mem_append, List.mem_singleton] at ha
          rcases ha with ha | rfl
          · exact h.sub a ha
          · exact h2
    · rw [if_neg h2] at e; cases e
theorem Ord.addP {f : Int} {os : List O} (xs : List Int) : ∀ {l : List Int}, Ord f os l → Ord f os (addP f os l xs).1 ∧ l <+: (addP f os l xs).1 := by
  induction xs with
  | nil => intro l h; exact ⟨h, List.prefix_refl _⟩
  | cons x xs ih =>
    intro l h
    simp only [Mem.addP]
    cases e : Mem.add1 f os l x with
    | none => exact ⟨h, List.prefix_refl _⟩
    | some l' =>
      obtain ⟨h1, h2⟩ := h.add1 e
      obtain ⟨h3, h4⟩ := ih h1
      exact ⟨h3, h2.trans h4⟩
theorem Ord.goP {f : Int} {os : List O} (n : Nat) : ∀ (i : Nat) {l : List Int}, Ord f os l → Ord f os (goP f os n i l).1 ∧ l <+: (goP f os n i l).1 := by
  induction n with
  | zero => intro i l h; exact ⟨h, List.prefix_refl _⟩
  | succ n ih =>
    intro i l h
    simp only [Mem.goP]
    cases l[i]? with
    | none => exact ⟨h, List.prefix_refl _⟩
    | some a =>
      obtain ⟨h1, h2⟩ := h.addP (tg f os a)
      by_cases h3 : (Mem.addP f os l (tg f os a)).2 = true
      · simp only [h3, if_true]
        obtain ⟨h4, h5⟩ := ih (i + 1) h1
        exact ⟨h4, h2.trans h5⟩
      · simp only [h3]
        exact ⟨h1, h2⟩
theorem Ord.walkP (f : Int) (os : List O) (roots : List Int) : Ord f os (walkP f os roots).1 := by
  obtain ⟨h1, -⟩ := (Ord.nil f os).addP roots
  unfold Mem.walkP
  split
  · exact ((h1.goP (os.length + 1) 0)).1
  · exact h1
end Go.Proofs.Ytjccaojlldkmpaa.Mem
