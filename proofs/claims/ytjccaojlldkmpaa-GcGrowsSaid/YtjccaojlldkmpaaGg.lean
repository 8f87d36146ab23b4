/- The law GcGrows, walked; closed sets; ref.SameWords (printed). -/
import Derived.Test.YtjccaojlldkmpaaKn4
import Derived.Test.YtjccaojlldkmpaaHp
import Derived.Test.YtjccaojlldkmpaaPa0
import Derived.Test.YtjccaojlldkmpaaPa2
import Derived.Test.YtjccaojlldkmpaaGq
namespace Go.Proofs.Ytjccaojlldkmpaa.Pa
open Go.RowKit Go.Proofs.YtjccaojlldkmpaaW.PrintWords Go.Proofs.YtjccaojlldkmpaaW.PrintLast Go.Proofs.YtjccaojlldkmpaaW.PrintMore
attribute [local go_sem] max2_int min2_int max_two min_two max_three min_three max_four min_four   -- for this text's walks alone
set_option linter.unusedVariables false
set_option linter.unusedSimpArgs false

/-! ### kindlingref01_SameWords: function 21 -/
def kindlingref01_SameWords.l0 : Nat → List Int → List Int → Int → Option (Bool)
  | 0, _, _, _ => none
  | k + 1, x0, x1, x5 => if x5 < (x0.length : Int) then (if 0 ≤ x5 then (if x5 < (x1.length : Int) then (if (rd x0 x5) = (rd x1 x5) then (kindlingref01_SameWords.l0 k x0 x1 (wrap64 (x5 + 1))) else (some false)) else (none)) else (none)) else (some true)
def kindlingref01_SameWords.f (k : Nat) (l0 : List Int) (l1 : List Int) : Option (Bool) := if (l0.length : Int) = (l1.length : Int) then (kindlingref01_SameWords.l0 k l0 l1 0) else (some false)
theorem kindlingref01_SameWords.mono_l : ∀ k, (∀ y0 y1 y2, LeO (kindlingref01_SameWords.l0 k y0 y1 y2) (kindlingref01_SameWords.l0 (k + 1) y0 y1 y2))
  | 0 => fun _ _ _ r h => by simp [kindlingref01_SameWords.l0] at h
  | k + 1 => by
    have ih0 := kindlingref01_SameWords.mono_l k
    · intro y0 y1 y2
      unfold kindlingref01_SameWords.l0
      repeat' first
      | (with_reducible exact ih0 _ _ _)
      | (with_reducible exact LeO.refl _)
      | (with_reducible exact LeO.none _)
      | (with_reducible refine LeO.ite ?_ ?_)
      | (with_reducible refine LeO.bind ?_ (fun _ => ?_))
      | exact ih0 _ _ _
      | exact LeO.none _
      | refine LeO.ite ?_ ?_
      | refine LeO.bind ?_ (fun _ => ?_)
theorem kindlingref01_SameWords.mono : ∀ a0 a1 k, LeO (kindlingref01_SameWords.f k a0 a1) (kindlingref01_SameWords.f (k + 1) a0 a1) := by
  intro a0 a1 k
  have ih0 := kindlingref01_SameWords.mono_l k
  unfold kindlingref01_SameWords.f
  repeat' first
      | (with_reducible exact ih0 _ _ _)
      | (with_reducible exact LeO.refl _)
      | (with_reducible exact LeO.none _)
      | (with_reducible refine LeO.ite ?_ ?_)
      | (with_reducible refine LeO.bind ?_ (fun _ => ?_))
      | exact ih0 _ _ _
      | exact LeO.none _
      | refine LeO.ite ?_ ?_
      | refine LeO.bind ?_ (fun _ => ?_)
set_option maxHeartbeats 8000000 in
set_option maxRecDepth 100000 in
theorem kindlingref01_SameWords.calls (k : Nat) (A0 : Option Addr) (c0 : Nat) (l0 : List Int) (A1 : Option Addr) (c1 : Nat) (l1 : List Int) (r : Bool) (w : World) (hr0 : Kd.C (Kd.int .u64) w A0 l0.length l0) (hc0 : l0.length ≤ c0) (hr1 : Kd.C (Kd.int .u64) w A1 l1.length l1) (hc1 : l1.length ≤ c1) (h : kindlingref01_SameWords.f k l0 l1 = some r) :
    Calls Try.prog 21 #[.slice A0 l0.length c0, .slice A1 l1.length c1] w fun e w' => e = .returned (.bool r) ∧ Drawn0 w w' := by
  have HR0 := Aside0.mk hr0
  have HC0 := Aside0.mk hc0
  clear hr0 hc0
  have HR1 := Aside0.mk hr1
  have HC1 := Aside0.mk hc1
  clear hr1 hc1
  have H : (if (l0.length : Int) = (l1.length : Int) then (kindlingref01_SameWords.l0 k l0 l1 0) else (some false)) = some r := h
  clear h
  by_cases c3 : (l0.length : Int) = (l1.length : Int)
  · rw [if_pos c3] at H
    have c3b0 : ((l0.length : Int) == (l1.length : Int)) = true := beq_iff_eq.mpr c3
    have c3b1 : ((l0.length : Int) != (l1.length : Int)) = false := bne_eq_false_iff_eq.mpr c3
    have c3b2 : (l0.length == l1.length) = true := by first | simpa using c3 | (simp at c3 ⊢; omega)
    clear c3
    have H' := Aside0.mk H
    clear H
    go_enter Try.func21, Try.ntmps21
    go_wp2
    repeat (go_quiet (fail); try go_wp2)
    go_loopg [5] k (fun kq v5 w' => ∃ (x5_1 : Int), v5 = .int .i64 x5_1 ∧ Aside0 (kindlingref01_SameWords.l0 kq l0 l1 x5_1 = some r) ∧ Aside0 (kq ≤ k) ∧ Drawn0 w w')
    case atStart => exact ⟨(0), (by first | rfl | (simp; done) | (simp [*]; done)), H', ⟨Nat.le_refl _⟩, by repeat (first | exact Drawn0.refl _ | apply Drawn0.step)⟩
    case round =>
      clear H'
      try clear c1
      try clear c2
      try clear p2
      try clear c3
      try clear c3b0
      try clear c3b1
      try clear c3b2
      obtain ⟨x5_1, rfl, HA, HK1, ⟨m1, rfl⟩⟩ := hrel
      cases gk with
      | zero => exact absurd HA.out (by simp [kindlingref01_SameWords.l0])
      | succ k1 =>
        have H := HA.out
        clear HA
        simp only [kindlingref01_SameWords.l0] at H
        by_cases c4 : x5_1 < (l0.length : Int)
        · rw [if_pos c4] at H
          have c4b0 : decide (x5_1 < (l0.length : Int)) = true := decide_eq_true c4
          clear c4
          by_cases c5 : 0 ≤ x5_1
          · rw [if_pos c5] at H
            have c5b0 : decide (0 ≤ x5_1) = true := decide_eq_true c5
            clear c5
            by_cases c6 : x5_1 < (l1.length : Int)
            · rw [if_pos c6] at H
              have c6b0 : decide (x5_1 < (l1.length : Int)) = true := decide_eq_true c6
              clear c6
              by_cases c7 : (rd l0 x5_1) = (rd l1 x5_1)
              · rw [if_pos c7] at H
                have c7b0 : ((rd l0 x5_1) == (rd l1 x5_1)) = true := beq_iff_eq.mpr c7
                have c7b1 : ((rd l0 x5_1) != (rd l1 x5_1)) = false := bne_eq_false_iff_eq.mpr c7
                clear c7
                have H' := Aside0.mk H
                clear H
                have p206 : 0 ≤ (x5_1 : Int) := of_decide_eq_true (by first | (with_reducible assumption) | assumption)
                have q206 : x5_1 < (l0.length : Int) := of_decide_eq_true (by first | (with_reducible assumption) | assumption)
                obtain ⟨ad206, e206, hx206_0⟩ := Kd.at_int HR0.out x5_1 p206 q206
                cases e206
                replace p206 := eq_true p206
                replace q206 := eq_true q206
                have p207 : 0 ≤ (x5_1 : Int) := of_decide_eq_true (by first | (with_reducible assumption) | assumption)
                have q207 : x5_1 < (l1.length : Int) := of_decide_eq_true (by first | (with_reducible assumption) | assumption)
                obtain ⟨ad207, e207, hx207_0⟩ := Kd.at_int HR1.out x5_1 p207 q207
                cases e207
                replace p207 := eq_true p207
                replace q207 := eq_true q207
                go_wp2
                repeat (go_quiet (fail); try go_wp2)
                go_roundg k1
                case measure => have := HK1.out; omega
                case rel => exact ⟨(wrap64 (x5_1 + 1)), (by first | rfl | (simp; done) | (simp [*]; done)), H', ⟨by have := HK1.out; omega⟩, by repeat (first | exact Drawn0.refl _ | apply Drawn0.step)⟩
              · rw [if_neg c7] at H
                have c7b0 : ((rd l0 x5_1) == (rd l1 x5_1)) = false := beq_eq_false_iff_ne.mpr c7
                have c7b1 : ((rd l0 x5_1) != (rd l1 x5_1)) = true := bne_iff_ne.mpr c7
                obtain rfl := Option.some.inj H
                have p206 : 0 ≤ (x5_1 : Int) := of_decide_eq_true (by first | (with_reducible assumption) | assumption)
                have q206 : x5_1 < (l0.length : Int) := of_decide_eq_true (by first | (with_reducible assumption) | assumption)
                obtain ⟨ad206, e206, hx206_0⟩ := Kd.at_int HR0.out x5_1 p206 q206
                cases e206
                replace p206 := eq_true p206
                replace q206 := eq_true q206
                have p207 : 0 ≤ (x5_1 : Int) := of_decide_eq_true (by first | (with_reducible assumption) | assumption)
                have q207 : x5_1 < (l1.length : Int) := of_decide_eq_true (by first | (with_reducible assumption) | assumption)
                obtain ⟨ad207, e207, hx207_0⟩ := Kd.at_int HR1.out x5_1 p207 q207
                cases e207
                replace p207 := eq_true p207
                replace q207 := eq_true q207
                go_wp2
                repeat (go_quiet (fail); try go_wp2)
                go_ret
                exact ⟨by first | rfl | (simp; done) | (simp [*]; done), by repeat (first | exact Drawn0.refl _ | apply Drawn0.step)⟩
            · rw [if_neg c6] at H
              exact absurd H (by simp)
          · rw [if_neg c5] at H
            exact absurd H (by simp)
        · rw [if_neg c4] at H
          have c4b0 : decide (x5_1 < (l0.length : Int)) = false := decide_eq_false c4
          clear c4
          obtain rfl := Option.some.inj H
          go_wp2
          repeat (go_quiet (fail); try go_wp2)
          go_ret
          exact ⟨by first | rfl | (simp; done) | (simp [*]; done), by repeat (first | exact Drawn0.refl _ | apply Drawn0.step)⟩
  · rw [if_neg c3] at H
    have c3b0 : ((l0.length : Int) == (l1.length : Int)) = false := beq_eq_false_iff_ne.mpr c3
    have c3b1 : ((l0.length : Int) != (l1.length : Int)) = true := bne_iff_ne.mpr c3
    have c3b2 : (l0.length == l1.length) = false := by first | simpa using c3 | (simp at c3 ⊢; omega)
    obtain rfl := Option.some.inj H
    go_enter Try.func21, Try.ntmps21
    go_wp2
    repeat (go_quiet (fail); try go_wp2)
    go_ret
    exact ⟨by first | rfl | (simp; done) | (simp [*]; done), by repeat (first | exact Drawn0.refl _ | apply Drawn0.step)⟩


end Go.Proofs.Ytjccaojlldkmpaa.Pa

namespace Go.Proofs.Ytjccaojlldkmpaa.Mem
open Go.RowKit
open Hf (rightB hdr headOf partsOf)
set_option linter.unusedSimpArgs false
set_option linter.unusedVariables false
variable {f : Int} {os : List O}
/-- A word that is an integer's, or of an object of the set. -/
def Good (C : List Int) (x : Int) : Prop := x % 2 = 1 ∨ x / 2 ∈ C
/-- A set of objects whose fields lead to it alone. -/
structure Shut (f : Int) (os : List O) (C : List Int) : Prop where
  sub : ∀ a ∈ C, a ∈ heads f os
  all : ∀ a ∈ C, ∀ x ∈ tg f os a, Good C x
theorem add1_in {C l : List Int} {x : Int} (h : ∀ a ∈ C, a ∈ heads f os) (hl : ∀ a ∈ l, a ∈ C) (hx : Good C x) : ∃ l', add1 f os l x = some l' ∧ ∀ a ∈ l', a ∈ C := by
  unfold add1
  by_cases h1 : x % 2 = 1
  · rw [if_pos h1]; exact ⟨l, rfl, hl⟩
  · have h2 : x / 2 ∈ C := by
      rcases hx with hx | hx
      · exact absurd hx h1
      · exact hx
    rw [if_neg h1, if_pos (h _ h2)]
    by_cases h3 : x / 2 ∈ l
    · rw [if_pos h3]; exact ⟨l, rfl, hl⟩
    · rw [if_neg h3]
      refine ⟨_, rfl, fun a ha => ?_⟩
      rw [List.mem_append, List.mem_singleton] at ha
      rcases ha with ha | rfl
      · exact hl a ha
      · exact h2
theorem addP_in {C : List Int} (h : ∀ a ∈ C, a ∈ heads f os) (xs : List Int) : ∀ {l : List Int}, (∀ a ∈ l, a ∈ C) → (∀ x ∈ xs, Good C x) → (addP f os l xs).2 = true ∧ ∀ a ∈ (addP f os l xs).1, a ∈ C := by
  induction xs with
  | nil => intro l hl _; exact ⟨rfl, hl⟩
  | cons x xs ih =>
    intro l hl hx
    obtain ⟨l', e, hl'⟩ := add1_in h hl (hx x List.mem_cons_self)
    rw [addP_yes e]
    exact ih hl' (fun y hy => hx y (List.mem_cons_of_mem _ hy))
theorem goP_in {C : List Int} (h : Shut f os C) (n : Nat) : ∀ (i : Nat) {l : List Int}, (∀ a ∈ l, a ∈ C) → (goP f os n i l).2 = true ∧ ∀ a ∈ (goP f os n i l).1, a ∈ C := by
  induction n with
  | zero => intro i l hl; exact ⟨rfl, hl⟩
  | succ n ih =>
    intro i l hl
    rw [goP]
    cases e : l[i]? with
    | none => exact ⟨rfl, hl⟩
    | some a =>
      have ha : a ∈ C := hl a (List.mem_of_getElem? e)
      obtain ⟨h1, h2⟩ := addP_in h.sub (tg f os a) hl (h.all a ha)
      simp only [h1, if_true]
      exact ih (i + 1) h2
theorem walkP_in {C xs : List Int} (h : Shut f os C) (hx : ∀ x ∈ xs, Good C x) : (walkP f os xs).2 = true ∧ ∀ a ∈ (walkP f os xs).1, a ∈ C := by
  obtain ⟨h1, h2⟩ := addP_in h.sub xs (l := []) (fun a ha => by cases ha) hx
  unfold walkP
  rw [if_pos h1]
  exact goP_in h _ 0 h2
theorem add1_good {l l' : List Int} {x : Int} (e : add1 f os l x = some l') : Good l' x := by
  by_cases h1 : x % 2 = 1
  · exact .inl h1
  · obtain ⟨h2, ⟨h3, rfl⟩ | ⟨h3, rfl⟩⟩ := add1_even h1 e
    · exact .inr h3
    · exact .inr (by simp)
theorem Good.mono {C D : List Int} {x : Int} (h : Good C x) (hs : ∀ a ∈ C, a ∈ D) : Good D x := h.imp id (fun h => hs _ h)
theorem addP_good (xs : List Int) : ∀ {l : List Int}, Ord f os l → (addP f os l xs).2 = true → ∀ x ∈ xs, Good (addP f os l xs).1 x := by
  induction xs with
  | nil => intro l _ _ x hx; cases hx
  | cons y xs ih =>
    intro l hl h x hx
    cases e : add1 f os l y with
    | none => rw [addP_no e] at h; cases h
    | some l' =>
      rw [addP_yes e] at h ⊢
      have ho := (hl.add1 e).1
      rcases List.mem_cons.1 hx with rfl | hx
      · exact (add1_good e).mono (fun a ha => (ho.addP xs).2.subset ha)
      · exact ih ho h x hx
/-- A walk that went well ends in a closed set. -/
theorem walk_shut {xs L : List Int} (h : walkP f os xs = (L, true)) : Shut f os L ∧ ∀ x ∈ xs, Good L x := by
  obtain ⟨h1, h2, h3, h4⟩ := walk_run h
  have hpre : ∀ k, k ≤ L.length → ∀ a ∈ it f os (addP f os [] xs).1 k, a ∈ L := fun k hk a ha => by
    have := it_pre h2 k (L.length - k)
    rw [show k + (L.length - k) = L.length by omega, h4] at this
    exact this.subset ha
  refine ⟨⟨fun a ha => ?_, fun a ha x hx => ?_⟩, fun x hx => ?_⟩
  · have hO := it_ord h2 L.length
    rw [h4] at hO
    exact hO.sub a ha
  · obtain ⟨k, hk, rfl⟩ := List.mem_iff_getElem.1 ha
    obtain ⟨p1, p2⟩ := h3 k hk
    have e : (it f os (addP f os [] xs).1 k).getD k 0 = L[k] := by
      have hp := it_pre h2 k (L.length - k)
      rw [show k + (L.length - k) = L.length by omega, h4] at hp
      rw [prefix_get hp k p1 hk]
      simp [List.getD, p1]
    have hg := addP_good _ (it_ord h2 k) p2
    rw [e] at hg
    refine (hg x hx).mono (fun b hb => hpre (k + 1) (by omega) b ?_)
    rw [it_succ, e]
    exact hb
  · exact (addP_good xs (Ord.nil f os) h1 x hx).mono (hpre 0 (Nat.zero_le _))
/-- Words that lead to what is there change nothing. -/
theorem addP_same {l : List Int} (hl : ∀ a ∈ l, a ∈ heads f os) (xs : List Int) (hx : ∀ x ∈ xs, Good l x) : addP f os l xs = (l, true) := by
  induction xs with
  | nil => rfl
  | cons y xs ih =>
    have e : add1 f os l y = some l := by
      unfold add1
      by_cases h1 : y % 2 = 1
      · rw [if_pos h1]
      · have h2 : y / 2 ∈ l := by
          rcases hx y List.mem_cons_self with h | h
          · exact absurd h h1
          · exact h
        rw [if_neg h1, if_pos (hl _ h2), if_pos h2]
    rw [addP_yes e]
    exact ih (fun x h => hx x (List.mem_cons_of_mem _ h))
theorem walk_twice {xs L : List Int} (h : walkP f os xs = (L, true)) : walkP f os (xs ++ xs) = (L, true) := by
  obtain ⟨h1, h2, -, -⟩ := walk_run h
  have h3 : addP f os [] (xs ++ xs) = addP f os [] xs := by
    rw [addP_append, if_pos h1, addP_same h2.sub xs (addP_good xs (Ord.nil f os) h1)]
    exact Prod.ext rfl h1.symm
  unfold walkP at h ⊢
  rw [h3]
  exact h
theorem tot_sub (ns : List Nat) : ∀ (l l' : List Nat), l.Nodup → (∀ a ∈ l, a ∈ l') → tot ns l ≤ tot ns l'
  | [], l', _, _ => Nat.zero_le _
  | a :: l, l', hn, hs => by
    rw [List.nodup_cons] at hn
    have ha := hs a List.mem_cons_self
    have h1 := tot_erase ns a l' ha
    have h2 := tot_sub ns l (l'.erase a) hn.2 (fun b hb => by
      have hne : b ≠ a := fun e => hn.1 (by rw [← e]; exact hb)
      exact (List.mem_erase_of_ne hne).2 (hs b (List.mem_cons_of_mem _ hb)))
    have h3 : tot ns (a :: l) = (ns.getD a 0 + 1) + tot ns l := by simp [tot]
    omega
theorem flat_tot {l : List Int} (h : Ord f os l) : (flat (l.map (obAt f os))).length = tot (os.map (fun o => o.fs.length)) (l.map (fun a => (heads f os).idxOf a)) := by
  rw [flat_len]
  unfold tot
  rw [List.map_map, List.map_map, List.map_map]
  congr 1
  apply List.map_congr_left
  intro a ha
  obtain ⟨i, hi, rfl⟩ := mem_heads.1 (h.sub a ha)
  simp only [Function.comp_def, obAt_at f os i hi, heads_idx f os i hi]
  simp [List.getD, hi]
theorem idx_nodup {l : List Int} (h : Ord f os l) : (l.map (fun a => (heads f os).idxOf a)).Nodup := by
  rw [List.Nodup, List.pairwise_map]
  refine List.Pairwise.imp_of_mem ?_ h.nd
  intro a b ha hb hab e
  obtain ⟨i, hi, rfl⟩ := mem_heads.1 (h.sub a ha)
  obtain ⟨j, hj, rfl⟩ := mem_heads.1 (h.sub b hb)
  rw [heads_idx f os i hi, heads_idx f os j hj] at e
  exact hab (by rw [e])
/-- More roots reach no less. -/
theorem walk_grows {xs ys L : List Int} (h : walkP f os (xs ++ ys) = (L, true)) : ∃ K, walkP f os xs = (K, true) ∧ (flat (K.map (obAt f os))).length ≤ (flat (L.map (obAt f os))).length := by
  obtain ⟨h1, h2⟩ := walk_shut h
  obtain ⟨h3, h4⟩ := walkP_in h1 (fun x hx => h2 x (List.mem_append_left _ hx))
  refine ⟨(walkP f os xs).1, Prod.ext rfl h3, ?_⟩
  have hK := Ord.walkP f os xs
  have hL : Ord f os L := by have := Ord.walkP f os (xs ++ ys); rw [h] at this; exact this
  rw [flat_tot hK, flat_tot hL]
  apply tot_sub _ _ _ (idx_nodup hK)
  intro a ha
  obtain ⟨b, hb, rfl⟩ := List.mem_map.1 ha
  exact List.mem_map.2 ⟨b, h4 b hb, rfl⟩
end Go.Proofs.Ytjccaojlldkmpaa.Mem

namespace Go.Proofs.Ytjccaojlldkmpaa.Mem
open Go.RowKit Go.Proofs.YtjccaojlldkmpaaW.PrintWords Go.Proofs.YtjccaojlldkmpaaW.PrintLast Go.Proofs.YtjccaojlldkmpaaW.PrintMore
open Hf (rightB hdr headOf partsOf)
open Pa (S71 k71 z71 rd_T71 at_T71)
open Open4 (i64 wf71)
set_option linter.unusedSimpArgs false
set_option linter.unusedVariables false
set_option maxRecDepth 100000
variable {S : Nat → Prop} {w W W' w' : World} {g n B : Nat} {st : St}
theorem info56 : (Try.prog.info? 56).map (fun i => (i.zero, i.size, i.bytes)) = some (some (.int .u64 0), 1, 8) := by kernel_rfl
theorem same_f (l : List Int) (hl : l.length ≤ 1000) : Pa.kindlingref01_SameWords.f (l.length + 1) l l = some true := by
  have key : ∀ (d i : Nat), i + d = l.length → Pa.kindlingref01_SameWords.l0 (d + 1) l l (i : Int) = some true := by
    intro d
    induction d with
    | zero =>
      intro i hi
      rw [Pa.kindlingref01_SameWords.l0, if_neg (by omega)]
    | succ d ih =>
      intro i hi
      rw [Pa.kindlingref01_SameWords.l0, if_pos (by omega), if_pos (by omega), if_pos (by omega), if_pos rfl, w64 (by omega)]
      exact ih (i + 1) (by omega)
  unfold Pa.kindlingref01_SameWords.f
  rw [if_pos rfl]
  exact key l.length 0 (by omega)
theorem lit_R' {α : Type} (d : Kd α) {W : World} {e : Nat} (base : Nat) (hb : base ≤ W.heap.size) : d.R e (W.alloc (.cells #[] e)) base (fun _ => True) (.slice (some ⟨W.heap.size, 0, none⟩) 0 0) ([] : List α) :=
  lit_R d (xs := []) (inner := []) (okp := fun _ => True) (Reps.none _ _) hb (by simp)
set_option maxHeartbeats 8000000 in
theorem grows_any (A0 : Option Addr) (c0 : Nat) (l0 : List S71) (A1 : Option Addr) (c1 : Nat) (r1 : List Int) (A2 : Option Addr) (c2 : Nat) (r2 : List Int) (w : World) (h0 : l0.length ≤ c0) (hC0 : Kd.C k71 w A0 l0.length l0) (hw : ∀ o ∈ l0, wf71 o)
    (hC1 : Kd.C (Kd.int .i64) w A1 r1.length r1) (h1 : r1.length ≤ c1) (hC2 : Kd.C (Kd.int .i64) w A2 r2.length r2) (h2 : r2.length ≤ c2) :
    Calls Try.prog 9 #[.slice A0 l0.length c0, .slice A1 r1.length c1, .slice A2 r2.length c2] w fun e w' => e = .returned (.bool true) ∧ Below w.heap.size w w' := by
  obtain ⟨m, l, hHf, hl40, hfine⟩ := heap_f l0 hw
  have hG := fine_gl l hl40 hfine
  obtain ⟨xs, hxf, hx50, hxu⟩ := words_f l hl40 hfine r1
  obtain ⟨ys, hyf, hy50, hyu⟩ := words_f l hl40 hfine r2
  obtain ⟨N, hN⟩ : ∃ N : Int, 64 + (adr l l.length : Int) = N := ⟨_, rfl⟩
  rw [hN] at hHf hG
  have hH := Pa.kindlingref04_Heap.calls m A0 c0 l0 l N w hC0 h0 hHf
  clear hN
  go_enter Try.func9, Try.ntmps9
  go_wp2_with (first
    | (go_at_call 14; (with_reducible refine Calls.mono hH ?_); clear hH; rintro e w2 ⟨v2, rfl, hS2, hb2⟩
       obtain ⟨A, c, rfl, hc, hC⟩ := Kd.S_reads hS2
       have hMd := made_any (w := w2) (wvOf l) A c l N hC hc hG
       clear hS2)
    | (go_at_call 15; (with_reducible refine hMd.mono ?_); clear hMd; rintro e w5 ⟨g, rfl, M5⟩
       have hB5 := M5.1
       have P5 := M5.2.bound
       clear M5
       have hb5 := below_step hb2 hB5
       have hWa := Pa.kindlinglaw04_words.calls 200 A c l A1 c1 r1 xs w5 (Kd.C_below hC hB5) hc (Kd.C_below hC1 hb5) h1 hxf)
    | (go_at_call 17; (with_reducible refine hWa.mono ?_); clear hWa; rintro e w6 ⟨va, rfl, hRa, hb6⟩
       obtain ⟨Aa, ca, rfl, hca, hCa⟩ := Kd.R_reads hRa
       have P6 := P5.below hb6
       have hL6 := lit_R' (Kd.int .u64) (W := w6) (e := 56) w6.heap.size (Nat.le_refl _)
       have hA6 := Kd.C_alloc hCa (.cells #[] 56)
       have hB6 := below_alloc (Below.refl w6.heap.size w6) (.cells #[] 56)
       have hs6 : w6.heap.size ≤ (w6.alloc (.cells #[] 56)).heap.size := hB6.size
       have hC6 := Kd.C_below hC (below_step hB5 hb6)
       have hb26 := below_step hb5 hb6
       clear hRa)
    | ((with_reducible refine gate_builtin (b := .append) (xs := #[.tmp 31, .tmp 32]) rfl ?_); at_builtin; refine Kd.R_append_rows (Kd.int .u64) (w0 := w6) w6.heap.size rfl (.tmp 31) (.tmp 32) 32 56 (.int .u64 0) 8 rfl Try.underlying32 info56 rfl (by decide) (by decide) (.slice (some ⟨w6.heap.size, 0, none⟩) 0 0) [] xs Aa xs.length ca (fun _ => True) (fun _ => False) rfl rfl hL6 hA6 (fun _ _ h => h) (fun _ h => h.elim) (fun _ _ => trivial) hB6 hs6 (by simp; omega) ?_; intro v8 w8 ho8 hb8 hg8 hat8
       replace ho8 : (Kd.int .u64).R 56 w8 w6.heap.size (fun _ => True) v8 xs := ho8
       obtain ⟨A8, c8, rfl⟩ := Kd.R_slice ho8
       have hWm := Pa.kindlinglaw04_words.calls 200 A c l A2 c2 r2 ys w8 (Kd.C_below hC6 hb8) hc (Kd.C_below hC2 (below_step hb26 hb8)) h2 hyf
       clear hg8 hat8 hL6 hA6 hB6 hs6)
    | (go_at_call 17; (with_reducible refine hWm.mono ?_); clear hWm; rintro e w9 ⟨vm, rfl, hRm, hb9⟩
       obtain ⟨Am, cm, rfl, hcm, hCm⟩ := Kd.R_reads hRm
       have ho9 := Kd.R_below ho8 hb9
       have hb69 := below_step hb8 hb9
       have hs9 := hb69.size
       clear hRm ho8)
    | ((with_reducible refine gate_builtin (b := .append) (xs := #[.tmp 33, .tmp 36]) rfl ?_); at_builtin; refine Kd.R_append_rows (Kd.int .u64) (w0 := w6) w6.heap.size rfl (.tmp 33) (.tmp 36) 32 56 (.int .u64 0) 8 rfl Try.underlying32 info56 rfl (by decide) (by decide) (.slice A8 xs.length c8) xs ys Am ys.length cm (fun _ => True) (fun _ => False) rfl rfl ho9 hCm (fun _ _ h => h) (fun _ h => h.elim) (fun _ _ => trivial) hb69 hs9 (by omega) ?_; intro v10 w10 ho10 hb10 hg10 hat10
       obtain ⟨A10, c10, rfl⟩ := Kd.R_slice ho10
       have P10 := P6.below hb10
       have hCa10 := Kd.C_below hCa hb10
       clear hg10 hat10 ho9 hb69 hs9))
  obtain ⟨st, hst⟩ : ∃ st : St, (⟨N, 0, full (wvOf l) l, [], .map []⟩ : St) = st := ⟨_, rfl⟩
  have hstz : st.size = N ∧ st.half = 0 := by rw [← hst]; exact ⟨rfl, rfl⟩
  rw [hst] at P10
  have hb610 := below_step hb26 hb10
  have hCb := (Kd.R_reads' ho10).2.2
  have hcb := (Kd.R_reads' ho10).2.1
  have hbu : ∀ x ∈ xs ++ ys, 0 ≤ x ∧ x < 18446744073709551616 := fun x hx => by
    rcases List.mem_append.1 hx with h | h
    · exact hxu x h
    · exact hyu x h
  have hbl : (xs ++ ys).length = xs.length + ys.length := List.length_append
  have hz5 : w5.heap.size ≤ w10.heap.size := Nat.le_trans hb6.size hb10.size
  have hz2 := hb2.size
  have hz25 := hB5.size
  obtain ⟨nb, hnb⟩ : ∃ nb, xs.length + ys.length = nb := ⟨_, rfl⟩
  have hn100 : nb ≤ 100 := by omega
  have hgr := fun L => walk_grows (f := st.f) (os := st.os) (xs := xs) (ys := ys) (L := L)
  rw [hnb] at hbl ⊢
  generalize xs ++ ys = bs at hgr hbl hbu hCb ho10 hcb
  clear hnb
  clear hb10 hb26 hb6 hB5 hb2 hb5 P5 P6 hC6 hC hst hG hxf hyf hw hC1 hC2 hHf hfine hC0
  cases hb : walkP st.f st.os bs with
  | mk L ok =>
  cases ok with
  | false =>
    have hLb : ∀ W, Below w10.heap.size w10 W → Calls Try.prog 28 #[.pointer (some ⟨g, 0, none⟩), .slice A10 nb c10] W fun e w' => e = .returned (.tuple #[.int .i64 0, .int .i64 40]) ∧ Below W.heap.size W w' := fun W hB => by
      have h := live_no (P10.below hB) A10 c10 bs (Kd.C_below hCb hB) hbu (by omega) (by rw [hb])
      rw [hbl] at h
      exact h
    cases ha : walkP st.f st.os xs with
    | mk K oka =>
    cases oka with
    | false =>
      have hLa : Calls Try.prog 28 #[.pointer (some ⟨g, 0, none⟩), .slice Aa xs.length ca] w10 _ := live_no P10 Aa ca xs hCa10 hxu (by omega) (by rw [ha])
      go_wp2_with (first
        | (go_at_call 28; (with_reducible refine hLa.mono ?_); clear hLa; rintro e w11 ⟨rfl, hb11⟩)
        | (go_at_call 28; (with_reducible refine (hLb _ hb11).mono ?_); clear hLb; rintro e w12 ⟨rfl, hb12⟩)
        | (go_at_call 24; (with_reducible refine (known_any _).mono ?_); rintro e w13 ⟨rfl, hb13⟩))
      go_ret
      exact ⟨rfl, below_step (below_step (below_step hb610 hb11) hb12) hb13⟩
    | true =>
      have hLa : Calls Try.prog 28 #[.pointer (some ⟨g, 0, none⟩), .slice Aa xs.length ca] w10 _ := live_any P10 Aa ca xs hCa10 hxu (by omega) ha
      go_wp2_with (first
        | (go_at_call 28; (with_reducible refine hLa.mono ?_); clear hLa; rintro e w11 ⟨rfl, hb11⟩)
        | (go_at_call 28; (with_reducible refine (hLb _ hb11).mono ?_); clear hLb; rintro e w12 ⟨rfl, hb12⟩)
        | (go_at_call 24; (with_reducible refine (known_any _).mono ?_); rintro e w13 ⟨rfl, hb13⟩))
      go_ret
      exact ⟨rfl, below_step (below_step (below_step hb610 hb11) hb12) hb13⟩
  | true =>
    obtain ⟨K, ha, hKL⟩ := hgr L hb
    have hLa : Calls Try.prog 28 #[.pointer (some ⟨g, 0, none⟩), .slice Aa xs.length ca] w10 _ := live_any P10 Aa ca xs hCa10 hxu (by omega) ha
    have hLb : ∀ W, Below w10.heap.size w10 W → Calls Try.prog 28 #[.pointer (some ⟨g, 0, none⟩), .slice A10 nb c10] W fun e w' => e = .returned (.tuple #[.int .i64 ((flat (L.map (obAt st.f st.os))).length : Int), .int .i64 0]) ∧ Below W.heap.size W w' := fun W hB => by
      have h := live_any (P10.below hB) A10 c10 bs (Kd.C_below hCb hB) hbu (by omega) hb
      rw [hbl] at h
      exact h
    go_wp2_with (first
      | (go_at_call 28; (with_reducible refine hLa.mono ?_); clear hLa; rintro e w11 ⟨rfl, hb11⟩)
      | (go_at_call 28; (with_reducible refine (hLb _ hb11).mono ?_); clear hLb; rintro e w12 ⟨rfl, hb12⟩
         have hb102 := below_step hb11 hb12
         have P12 := P10.below hb102
         have hCb12 := Kd.C_below hCb hb102
         rw [hbl] at hCb12
         have hL12 := lit_R' (Kd.int .u64) (W := w12) (e := 56) w12.heap.size (Nat.le_refl _)
         have hA12 := Kd.C_alloc hCb12 (.cells #[] 56)
         have hB12 := below_alloc (Below.refl w12.heap.size w12) (.cells #[] 56)
         have hs12 : w12.heap.size ≤ (w12.alloc (.cells #[] 56)).heap.size := hB12.size)
      | ((with_reducible refine gate_builtin (b := .append) (xs := #[.tmp 67, .tmp 68]) rfl ?_); at_builtin; refine Kd.R_append_rows (Kd.int .u64) (w0 := w12) w12.heap.size rfl (.tmp 67) (.tmp 68) 32 56 (.int .u64 0) 8 rfl Try.underlying32 info56 rfl (by decide) (by decide) (.slice (some ⟨w12.heap.size, 0, none⟩) 0 0) [] bs A10 nb c10 (fun _ => True) (fun _ => False) rfl rfl hL12 hA12 (fun _ _ h => h) (fun _ h => h.elim) (fun _ _ => trivial) hB12 hs12 (by simp; omega) ?_; intro v13 w13 ho13 hb13 hg13 hat13
         replace ho13 : (Kd.int .u64).R 56 w13 w12.heap.size (fun _ => True) v13 bs := ho13
         obtain ⟨A13, c13, rfl⟩ := Kd.R_slice ho13
         rw [hbl] at ho13 ⊢
         have hCb13 := Kd.C_below hCb12 hb13
         have hs13 := hb13.size
         clear hg13 hat13 hL12 hA12 hB12 hs12)
      | ((with_reducible refine gate_builtin (b := .append) (xs := #[.tmp 69, .tmp 70]) rfl ?_); at_builtin; refine Kd.R_append_rows (Kd.int .u64) (w0 := w12) w12.heap.size rfl (.tmp 69) (.tmp 70) 32 56 (.int .u64 0) 8 rfl Try.underlying32 info56 rfl (by decide) (by decide) (.slice A13 nb c13) bs bs A10 nb c10 (fun _ => True) (fun _ => False) rfl rfl ho13 hCb13 (fun _ _ h => h) (fun _ h => h.elim) (fun _ _ => trivial) hb13 hs13 (by omega) ?_; intro v14 w14 ho14 hb14 hg14 hat14
         obtain ⟨A14, c14, rfl⟩ := Kd.R_slice ho14
         have hbl2 : (bs ++ bs).length = nb + nb := by rw [List.length_append, hbl]
         rw [hbl2] at ho14 ⊢
         have P14 := P12.below hb14
         have hbu2 : ∀ x ∈ bs ++ bs, 0 ≤ x ∧ x < 18446744073709551616 := fun x hx => by
           rcases List.mem_append.1 hx with h | h
           · exact hbu x h
           · exact hbu x h
         have hC14 := (Kd.R_reads' ho14).2.2
         have hCo := collect_any P14 (fun k h => by have := hb14.size; have := hb102.size; omega) A14 c14 (bs ++ bs) hC14 hbu2 (by omega) (fun ad h => by
           subst h
           have h1 := Kd.R_base ho14 ad.block (by simp [Value.ownBlock])
           have h2 := Kd.R_lt ho14 ad.block (by simp [Value.ownBlock])
           exact ⟨fun h3 => by have := hb102.size; have := h3.2; omega, h2⟩) (walk_twice hb)
         rw [hbl2] at hCo)
      | (go_at_call 19; (with_reducible refine hCo.mono ?_); clear hCo; unfold Collected; rw [hbl2]; rintro e w15 ⟨S15, B15, d15, D15, rfl, M15, hu15, hl15, hn15, ho15, hf15⟩))
    have hcs : (bs ++ bs).map (cw st.f2 st.f st.os L) = bs.map (cw st.f2 st.f st.os L) ++ bs.map (cw st.f2 st.f st.os L) := List.map_append
    rw [hcs] at ho15
    have hcl : (bs.map (cw st.f2 st.f st.os L)).length = nb := by rw [List.length_map, hbl]
    generalize bs.map (cw st.f2 st.f st.os L) = cs at ho15 hcl
    have hO15 := Kd.R_reads' ho15
    have hl2 : (cs ++ cs).length = nb + nb := by rw [List.length_append, hcl]
    have hcap : nb + nb ≤ d15 := hO15.2.1
    have hCf := hO15.2.2
    have hT1 := Kd.C_take hCf (m := nb) (by rw [hl2]; omega)
    have hT2 := Kd.C_drop hCf (m := nb) (c := d15) (by rw [hl2]; omega) (by rw [hl2]; exact hcap)
    rw [show (cs ++ cs).take nb = cs by rw [← hcl, List.take_left], hcl] at hT1
    rw [show (cs ++ cs).drop nb = cs by rw [← hcl, List.drop_left], hcl] at hT2
    have hFr := fun W (hd : Drawn0 w15 W) => (M15.drawn hd).free
    have hflat : (flat (cst st (L.map fun a => mapO (cw st.f2 st.f st.os L) (obAt st.f st.os a).tag.toNat (obAt st.f st.os a)) D15).os).length = (flat (L.map (obAt st.f st.os))).length := by
      show (flat (L.map fun a => mapO (cw st.f2 st.f st.os L) (obAt st.f st.os a).tag.toNat (obAt st.f st.os a))).length = _
      rw [flat_len, flat_len]
      congr 2
      rw [List.map_map, List.map_map]
      apply List.map_congr_left
      intro a _
      exact mapO_len _ _ _
    rw [hflat, show (cst st (L.map fun a => mapO (cw st.f2 st.f st.os L) (obAt st.f st.os a).tag.toNat (obAt st.f st.os a)) D15).size = N from hstz.1] at hFr
    have hNr := P10.lt.1
    rw [hstz.1] at hNr
    have hfL : ((flat (L.map (obAt st.f st.os))).length : Int) ≤ N := by
      have hOL : Ord st.f st.os L := by have := Ord.walkP st.f st.os bs; rw [hb] at this; exact this
      have h1 := ord_fit hOL
      have h2 := P10.lt.2.2
      rw [hstz.1] at h2
      omega
    generalize (flat (K.map (obAt st.f st.os))).length = fK at hKL ⊢
    generalize (flat (L.map (obAt st.f st.os))).length = fL at hKL hfL hFr ⊢
    have hle : decide ((fK : Int) ≤ (fL : Int)) = true := decide_eq_true (by omega)
    have hi0 : (0 : Int) ≤ (nb : Int) := by omega
    have hi1 : (nb : Int) ≤ (d15 : Int) := by omega
    have hi2 : (nb : Int) ≤ (nb : Int) + (nb : Int) := by omega
    have hi3 : (nb : Int) + (nb : Int) ≤ (d15 : Int) := by omega
    have hSw : Calls Try.prog 21 #[.slice B15 nb d15, .slice (if d15 = nb then B15 else Option.map (fun x => x.add nb) B15) nb (d15 - nb)] w15.drew fun e w' => e = .returned (.bool true) ∧ Drawn0 w15.drew w' := by
      have e : (fun x : Addr => x.add (nb * (Kd.int .u64).sz)) = fun x => x.add nb := by
        funext x
        exact congrArg x.add (Nat.mul_one nb)
      rw [e] at hT2
      have h := Pa.kindlingref01_SameWords.calls (cs.length + 1) B15 d15 cs (if d15 = nb then B15 else Option.map (fun x => x.add nb) B15) (d15 - nb) cs true w15.drew (by rw [hcl]; exact Kd.C_drew hT1) (by omega) (by rw [hcl]; exact Kd.C_drew hT2) (by omega) (same_f cs (by omega))
      rw [hcl] at h
      exact h
    have hw15 : w.heap.size ≤ w14.heap.size := by
      have h1 := hb610.size
      have h2 := hb102.size
      have h3 := hb14.size
      omega
    have hbF : Below w.heap.size w w15 := by
      have hb614 : Below w.heap.size w w14 := below_step (below_step hb610 hb102) hb14
      exact ⟨hf15.low.os.trans hb614.os, hf15.low.tape.trans hb614.tape, hf15.low.output.trans hb614.output, Nat.le_trans hb614.size hf15.low.size, fun k hk => (hf15.same k (Nat.lt_of_lt_of_le hk hb614.size) (fun h => by have := h.1; omega)).trans (hb614.block k hk)⟩
    clear hCf hO15 ho15 hcs hl2 hflat hn15 hl15 hC14 ho14 hCb hcb hCb13 hCb12 P12 P14 hCa10 ho13
    clear hcl hbl hstz hb ha hgr hT1 hT2 hbu2 hbl2 hbu hxu hyu hu15 hw15 hz5 hz2 hz25 M15 P10 hf15
    obtain ⟨Dn, hDn⟩ : ∃ Dn : Nat, N - (fL : Int) = (Dn : Int) := ⟨(N - (fL : Int)).toNat, by omega⟩
    have hDl : (Dn : Int) ≤ 65536 := by omega
    rw [hDn] at hFr
    have hsub : wrap64 (N - (fL : Int)) = (Dn : Int) := by rw [hDn, w64 (by omega)]
    have hsub2 : IntKind.i64.wrap (N - (fL : Int)) = (Dn : Int) := by
      rw [IntKind.wrap_i64]
      omega
    clear hfL hNr hDn
    clear hg14 hat14 ho10 hCa hCm hb8 hb9 hb11 hb12 hb13 hs13 hca hcm hc hle
    by_cases hd : d15 = nb
    · obtain rfl : nb = 0 := by omega
      subst hd
      rw [if_pos rfl] at hSw
      replace hSw : Calls Try.prog 21 #[.slice B15 0 0, .slice B15 0 0] w15.drew fun e w' => e = .returned (.bool true) ∧ Drawn0 w15.drew w' := hSw
      go_region_held3 (fun _ => True) (exact trivial)
        (first
          | (go_at_call 21; (with_reducible refine Calls.mono hSw ?_); rintro e w16 ⟨rfl, hd16⟩; have hdd := drawn_trans (x := w15) ⟨1, rfl⟩ hd16)
          | (go_at_call 32; (with_reducible refine Calls.mono (hFr _ hdd) ?_); rintro e w17 ⟨rfl, hd17⟩; have hdd2 := drawn_trans hdd hd17)
          | (go_at_call 24; (with_reducible refine Calls.mono (known_any _) ?_); rintro e w18 ⟨rfl, hb18⟩))
      go_wp2_with fail
      go_ret
      exact ⟨rfl, below_step (below_step hbF hdd2.below) hb18⟩
    · rw [if_neg hd] at hSw
      go_region_held3 (fun _ => True) (exact trivial)
        (first
          | (go_at_call 21; (with_reducible refine Calls.mono hSw ?_); rintro e w16 ⟨rfl, hd16⟩; have hdd := drawn_trans (x := w15) ⟨1, rfl⟩ hd16)
          | (go_at_call 32; (with_reducible refine Calls.mono (hFr _ hdd) ?_); rintro e w17 ⟨rfl, hd17⟩; have hdd2 := drawn_trans hdd hd17)
          | (go_at_call 24; (with_reducible refine Calls.mono (known_any _) ?_); rintro e w18 ⟨rfl, hb18⟩))
      go_wp2_with fail
      go_ret
      exact ⟨rfl, below_step (below_step hbF hdd2.below) hb18⟩
theorem grows_walk (a0 : Option Addr) (c0 : Nat) (l0 : List S71) (a1 : Option Addr) (len1 cap1 : Nat) (z1 : List Int) (a2 : Option Addr) (len2 cap2 : Nat) (z2 : List Int) (w : World) (h0 : l0.length ≤ c0) (hC0 : Kd.C k71 w a0 l0.length l0) (hw : ∀ o ∈ l0, wf71 o)
    (w1 : (a1 = none ∧ len1 = 0 ∧ cap1 = 0 ∧ z1 = []) ∨ ∃ x, a1 = some x ∧ len1 ≤ cap1 ∧ cap1 ≤ maxLen ∧ z1.length = cap1 ∧ (∀ i, i < z1.length → w.cell? (x.add i) = some (.int .i64 (z1.getD i 0))) ∧ ∀ n ∈ z1, (Lit.int .i64 n).wf = true) (y1 : len1 * 8 ≤ 140737488351232)
    (w2 : (a2 = none ∧ len2 = 0 ∧ cap2 = 0 ∧ z2 = []) ∨ ∃ x, a2 = some x ∧ len2 ≤ cap2 ∧ cap2 ≤ maxLen ∧ z2.length = cap2 ∧ (∀ i, i < z2.length → w.cell? (x.add i) = some (.int .i64 (z2.getD i 0))) ∧ ∀ n ∈ z2, (Lit.int .i64 n).wf = true) (y2 : len2 * 8 ≤ 140737488351232) :
    Calls Try.prog 9 #[.slice a0 l0.length c0, .slice a1 len1 cap1, .slice a2 len2 cap2] w fun e w' => e = .returned (.bool true) ∧ Below w.heap.size w w' := by
  obtain ⟨l1, rfl, hr1, hm1, hw1, hc1⟩ := ReadsInt.ofRowC w1
  obtain ⟨l2, rfl, hr2, hm2, hw2, hc2⟩ := ReadsInt.ofRowC w2
  exact grows_any a0 c0 l0 a1 cap1 l1 a2 cap2 l2 w h0 hC0 hw (Kd.C_of_reads (d := (0 : Int)) (h1 := fun _ => rfl) hr1) hc1 (Kd.C_of_reads (d := (0 : Int)) (h1 := fun _ => rfl) hr2) hc2
end Go.Proofs.Ytjccaojlldkmpaa.Mem

