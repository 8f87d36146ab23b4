/- The law GcLeast, walked; closed sets; behind a collection the same can be reached, in the same order. -/
import Derived.Test.YtjccaojlldkmpaaKn4
import Derived.Test.YtjccaojlldkmpaaHp
import Derived.Test.YtjccaojlldkmpaaGq
namespace Go.Proofs.Ytjccaojlldkmpaa.Mem
open Go.RowKit
open Hf (rightB hdr headOf partsOf)
set_option linter.unusedSimpArgs false
set_option linter.unusedVariables false
variable {f : Int} {os : List O}
/-- A word that is an integer's, or of an object of the set. -/
def Good (C : List Int) (x : Int) : Prop := x % 2 = 1 ∨ x / 2 ∈ C
/-- A set of objects whose fields lead to it alone. -/
structure Shut (f : Int) (os : List O) (C : List Int) : Prop where
  sub : ∀ a ∈ C, a ∈ heads f os
  all : ∀ a ∈ C, ∀ x ∈ tg f os a, Good C x
theorem add1_in {C l : List Int} {x : Int} (h : ∀ a ∈ C, a ∈ heads f os) (hl : ∀ a ∈ l, a ∈ C) (hx : Good C x) : ∃ l', add1 f os l x = some l' ∧ ∀ a ∈ l', a ∈ C := by
  unfold add1
  by_cases h1 : x % 2 = 1
  · rw [if_pos h1]; exact ⟨l, rfl, hl⟩
  · have h2 : x / 2 ∈ C := by
      rcases hx with hx | hx
      · exact absurd hx h1
      · exact hx
    rw [if_neg h1, if_pos (h _ h2)]
    by_cases h3 : x / 2 ∈ l
    · rw [if_pos h3]; exact ⟨l, rfl, hl⟩
    · rw [if_neg h3]
      refine ⟨_, rfl, fun a ha => ?_⟩
      rw [List.mem_append, List.mem_singleton] at ha
      rcases ha with ha | rfl
      · exact hl a ha
      · exact h2
theorem addP_in {C : List Int} (h : ∀ a ∈ C, a ∈ heads f os) (xs : List Int) : ∀ {l : List Int}, (∀ a ∈ l, a ∈ C) → (∀ x ∈ xs, Good C x) → (addP f os l xs).2 = true ∧ ∀ a ∈ (addP f os l xs).1, a ∈ C := by
  induction xs with
  | nil => intro l hl _; exact ⟨rfl, hl⟩
  | cons x xs ih =>
    intro l hl hx
    obtain ⟨l', e, hl'⟩ := add1_in h hl (hx x List.mem_cons_self)
    rw [addP_yes e]
    exact ih hl' (fun y hy => hx y (List.mem_cons_of_mem _ hy))
theorem goP_in {C : List Int} (h : Shut f os C) (n : Nat) : ∀ (i : Nat) {l : List Int}, (∀ a ∈ l, a ∈ C) → (goP f os n i l).2 = true ∧ ∀ a ∈ (goP f os n i l).1, a ∈ C := by
  induction n with
  | zero => intro i l hl; exact ⟨rfl, hl⟩
  | succ n ih =>
    intro i l hl
    rw [goP]
    cases e : l[i]? with
    | none => exact ⟨rfl, hl⟩
    | some a =>
      have ha : a ∈ C := hl a (List.mem_of_getElem? e)
      obtain ⟨h1, h2⟩ := addP_in h.sub (tg f os a) hl (h.all a ha)
      simp only [h1, if_true]
      exact ih (i + 1) h2
theorem walkP_in {C xs : List Int} (h : Shut f os C) (hx : ∀ x ∈ xs, Good C x) : (walkP f os xs).2 = true ∧ ∀ a ∈ (walkP f os xs).1, a ∈ C := by
  obtain ⟨h1, h2⟩ := addP_in h.sub xs (l := []) (fun a ha => by cases ha) hx
  unfold walkP
  rw [if_pos h1]
  exact goP_in h _ 0 h2
theorem add1_good {l l' : List Int} {x : Int} (e : add1 f os l x = some l') : Good l' x := by
  by_cases h1 : x % 2 = 1
  · exact .inl h1
  · obtain ⟨h2, ⟨h3, rfl⟩ | ⟨h3, rfl⟩⟩ := add1_even h1 e
    · exact .inr h3
    · exact .inr (by simp)
theorem Good.mono {C D : List Int} {x : Int} (h : Good C x) (hs : ∀ a ∈ C, a ∈ D) : Good D x := h.imp id (fun h => hs _ h)
theorem addP_good (xs : List Int) : ∀ {l : List Int}, Ord f os l → (addP f os l xs).2 = true → ∀ x ∈ xs, Good (addP f os l xs).1 x := by
  induction xs with
  | nil => intro l _ _ x hx; cases hx
  | cons y xs ih =>
    intro l hl h x hx
    cases e : add1 f os l y with
    | none => rw [addP_no e] at h; cases h
    | some l' =>
      rw [addP_yes e] at h ⊢
      have ho := (hl.add1 e).1
      rcases List.mem_cons.1 hx with rfl | hx
      · exact (add1_good e).mono (fun a ha => (ho.addP xs).2.subset ha)
      · exact ih ho h x hx
/-- A walk that went well ends in a closed set. -/
theorem walk_shut {xs L : List Int} (h : walkP f os xs = (L, true)) : Shut f os L ∧ ∀ x ∈ xs, Good L x := by
  obtain ⟨h1, h2, h3, h4⟩ := walk_run h
  have hpre : ∀ k, k ≤ L.length → ∀ a ∈ it f os (addP f os [] xs).1 k, a ∈ L := fun k hk a ha => by
    have := it_pre h2 k (L.length - k)
    rw [show k + (L.length - k) = L.length by omega, h4] at this
    exact this.subset ha
  refine ⟨⟨fun a ha => ?_, fun a ha x hx => ?_⟩, fun x hx => ?_⟩
  · have hO := it_ord h2 L.length
    rw [h4] at hO
    exact hO.sub a ha
  · obtain ⟨k, hk, rfl⟩ := List.mem_iff_getElem.1 ha
    obtain ⟨p1, p2⟩ := h3 k hk
    have e : (it f os (addP f os [] xs).1 k).getD k 0 = L[k] := by
      have hp := it_pre h2 k (L.length - k)
      rw [show k + (L.length - k) = L.length by omega, h4] at hp
      rw [prefix_get hp k p1 hk]
      simp [List.getD, p1]
    have hg := addP_good _ (it_ord h2 k) p2
    rw [e] at hg
    refine (hg x hx).mono (fun b hb => hpre (k + 1) (by omega) b ?_)
    rw [it_succ, e]
    exact hb
  · exact (addP_good xs (Ord.nil f os) h1 x hx).mono (hpre 0 (Nat.zero_le _))
/-- Words that lead to what is there change nothing. -/
theorem addP_same {l : List Int} (hl : ∀ a ∈ l, a ∈ heads f os) (xs : List Int) (hx : ∀ x ∈ xs, Good l x) : addP f os l xs = (l, true) := by
  induction xs with
  | nil => rfl
  | cons y xs ih =>
    have e : add1 f os l y = some l := by
      unfold add1
      by_cases h1 : y % 2 = 1
      · rw [if_pos h1]
      · have h2 : y / 2 ∈ l := by
          rcases hx y List.mem_cons_self with h | h
          · exact absurd h h1
          · exact h
        rw [if_neg h1, if_pos (hl _ h2), if_pos h2]
    rw [addP_yes e]
    exact ih (fun x h => hx x (List.mem_cons_of_mem _ h))
theorem walk_twice {xs L : List Int} (h : walkP f os xs = (L, true)) : walkP f os (xs ++ xs) = (L, true) := by
  obtain ⟨h1, h2, -, -⟩ := walk_run h
  have h3 : addP f os [] (xs ++ xs) = addP f os [] xs := by
    rw [addP_append, if_pos h1, addP_same h2.sub xs (addP_good xs (Ord.nil f os) h1)]
    exact Prod.ext rfl h1.symm
  unfold walkP at h ⊢
  rw [h3]
  exact h
theorem tot_sub (ns : List Nat) : ∀ (l l' : List Nat), l.Nodup → (∀ a ∈ l, a ∈ l') → tot ns l ≤ tot ns l'
  | [], l', _, _ => Nat.zero_le _
  | a :: l, l', hn, hs => by
    rw [List.nodup_cons] at hn
    have ha := hs a List.mem_cons_self
    have h1 := tot_erase ns a l' ha
    have h2 := tot_sub ns l (l'.erase a) hn.2 (fun b hb => by
      have hne : b ≠ a := fun e => hn.1 (by rw [← e]; exact hb)
      exact (List.mem_erase_of_ne hne).2 (hs b (List.mem_cons_of_mem _ hb)))
    have h3 : tot ns (a :: l) = (ns.getD a 0 + 1) + tot ns l := by simp [tot]
    omega
theorem flat_tot {l : List Int} (h : Ord f os l) : (flat (l.map (obAt f os))).length = tot (os.map (fun o => o.fs.length)) (l.map (fun a => (heads f os).idxOf a)) := by
  rw [flat_len]
  unfold tot
  rw [List.map_map, List.map_map, List.map_map]
  congr 1
  apply List.map_congr_left
  intro a ha
  obtain ⟨i, hi, rfl⟩ := mem_heads.1 (h.sub a ha)
  simp only [Function.comp_def, obAt_at f os i hi, heads_idx f os i hi]
  simp [List.getD, hi]
theorem idx_nodup {l : List Int} (h : Ord f os l) : (l.map (fun a => (heads f os).idxOf a)).Nodup := by
  rw [List.Nodup, List.pairwise_map]
  refine List.Pairwise.imp_of_mem ?_ h.nd
  intro a b ha hb hab e
  obtain ⟨i, hi, rfl⟩ := mem_heads.1 (h.sub a ha)
  obtain ⟨j, hj, rfl⟩ := mem_heads.1 (h.sub b hb)
  rw [heads_idx f os i hi, heads_idx f os j hj] at e
  exact hab (by rw [e])
/-- More roots reach no less. -/
theorem walk_grows {xs ys L : List Int} (h : walkP f os (xs ++ ys) = (L, true)) : ∃ K, walkP f os xs = (K, true) ∧ (flat (K.map (obAt f os))).length ≤ (flat (L.map (obAt f os))).length := by
  obtain ⟨h1, h2⟩ := walk_shut h
  obtain ⟨h3, h4⟩ := walkP_in h1 (fun x hx => h2 x (List.mem_append_left _ hx))
  refine ⟨(walkP f os xs).1, Prod.ext rfl h3, ?_⟩
  have hK := Ord.walkP f os xs
  have hL : Ord f os L := by have := Ord.walkP f os (xs ++ ys); rw [h] at this; exact this
  rw [flat_tot hK, flat_tot hL]
  apply tot_sub _ _ _ (idx_nodup hK)
  intro a ha
  obtain ⟨b, hb, rfl⟩ := List.mem_map.1 ha
  exact List.mem_map.2 ⟨b, h4 b hb, rfl⟩
end Go.Proofs.Ytjccaojlldkmpaa.Mem

namespace Go.Proofs.Ytjccaojlldkmpaa.Mem
open Go.RowKit
open Hf (rightB hdr headOf partsOf)
set_option linter.unusedSimpArgs false
set_option linter.unusedVariables false
variable {f f1 : Int} {os ex : List O} {L : List Int}
/-- Where an object goes. -/
def na (f1 f : Int) (os : List O) (L : List Int) (a : Int) : Int := f1 + (pos (L.map (obAt f os)) (L.idxOf a) : Int)
/-- The objects behind the collection. -/
def col (f1 f : Int) (os : List O) (L : List Int) : List O := L.map fun a => mapO (cw f1 f os L) (obAt f os a).tag.toNat (obAt f os a)
theorem col_lens (f1 f : Int) (os : List O) (L : List Int) : (col f1 f os L).map (fun o => o.fs.length) = (L.map (obAt f os)).map (fun o => o.fs.length) := by
  unfold col
  rw [List.map_map, List.map_map]
  apply List.map_congr_left
  intro a _
  exact mapO_len _ _ _
theorem col_flat (f1 f : Int) (os : List O) (L : List Int) : (flat (col f1 f os L)).length = (flat (L.map (obAt f os))).length := by rw [flat_len, flat_len, col_lens]
theorem col_len (f1 f : Int) (os : List O) (L : List Int) : (col f1 f os L).length = L.length := by simp [col]
theorem pos_ext (a b : List O) (p : Nat) (h : p ≤ a.length) : pos (a ++ b) p = pos a p := by
  unfold pos
  rw [List.take_append_of_le_length h]
theorem na_pos (hL : Ord f os L) (i : Nat) (hi : i < L.length) : na f1 f os L L[i] = f1 + (pos (col f1 f os L ++ ex) i : Int) := by
  unfold na
  rw [hL.nd.idxOf_getElem i hi, pos_ext _ _ _ (by rw [col_len]; omega), pos_lens (col_lens f1 f os L)]
theorem na_head (hL : Ord f os L) {a : Int} (ha : a ∈ L) : na f1 f os L a ∈ heads f1 (col f1 f os L ++ ex) := by
  obtain ⟨i, hi, rfl⟩ := List.mem_iff_getElem.1 ha
  exact mem_heads.2 ⟨i, by rw [List.length_append, col_len]; omega, na_pos hL i hi⟩
theorem na_inj (hL : Ord f os L) {a b : Int} (ha : a ∈ L) (hb : b ∈ L) (e : na f1 f os L a = na f1 f os L b) : a = b := by
  obtain ⟨i, hi, rfl⟩ := List.mem_iff_getElem.1 ha
  obtain ⟨j, hj, rfl⟩ := List.mem_iff_getElem.1 hb
  rw [na_pos (ex := []) hL i hi, na_pos (ex := []) hL j hj] at e
  have h : i = j := pos_inj (os := col f1 f os L ++ []) (by rw [List.length_append, col_len]; omega) (by rw [List.length_append, col_len]; omega) (by omega)
  subst h
  rfl
theorem cw_odd {x : Int} (h : x % 2 = 1) : cw f1 f os L x = x := if_pos h
theorem cw_even {x : Int} (h : ¬ x % 2 = 1) : cw f1 f os L x = 2 * na f1 f os L (x / 2) := if_neg h
theorem take_map (c : Int → Int) (fs : List Int) (q : Nat) : ((fs.take q).map c ++ fs.drop q).take q = (fs.take q).map c := by
  by_cases h : q ≤ fs.length
  · exact List.take_left' (by rw [List.length_map, List.length_take]; omega)
  · rw [List.drop_of_length_le (by omega), List.append_nil, List.take_of_length_le (by rw [List.length_map, List.length_take]; omega)]
theorem na_tg (hL : Ord f os L) {a : Int} (ha : a ∈ L) : tg f1 (col f1 f os L ++ ex) (na f1 f os L a) = (tg f os a).map (cw f1 f os L) := by
  obtain ⟨i, hi, rfl⟩ := List.mem_iff_getElem.1 ha
  have hic : i < (col f1 f os L ++ ex).length := by rw [List.length_append, col_len]; omega
  have hget : (col f1 f os L ++ ex)[i] = mapO (cw f1 f os L) (obAt f os L[i]).tag.toNat (obAt f os L[i]) := by
    rw [List.getElem_append_left (by rw [col_len]; exact hi)]
    simp [col]
  rw [na_pos (ex := ex) hL i hi, tg_at f1 _ i hic, hget, tg_obAt f os L[i] (hL.sub _ ha)]
  exact take_map _ _ _
theorem add1_iso (hL : Ord f os L) {l : List Int} (hl : ∀ a ∈ l, a ∈ L) {x : Int} (hx : Good L x) : add1 f1 (col f1 f os L ++ ex) (l.map (na f1 f os L)) (cw f1 f os L x) = (add1 f os l x).map (fun l => l.map (na f1 f os L)) := by
  unfold add1
  by_cases h1 : x % 2 = 1
  · rw [cw_odd h1, if_pos h1, if_pos h1]
    rfl
  · have h2 : x / 2 ∈ L := by
      rcases hx with hx | hx
      · exact absurd hx h1
      · exact hx
    rw [cw_even h1, if_neg (by omega), show 2 * na f1 f os L (x / 2) / 2 = na f1 f os L (x / 2) by omega, if_pos (na_head hL h2), if_neg h1, if_pos (hL.sub _ h2)]
    by_cases h3 : x / 2 ∈ l
    · rw [if_pos h3, if_pos (List.mem_map.2 ⟨_, h3, rfl⟩)]
      rfl
    · rw [if_neg h3, if_neg (fun h => by
        obtain ⟨b, hb, e⟩ := List.mem_map.1 h
        exact h3 (na_inj hL (hl b hb) h2 e ▸ hb))]
      simp
theorem addP_iso (hL : Ord f os L) (xs : List Int) : ∀ {l : List Int}, (∀ a ∈ l, a ∈ L) → (∀ x ∈ xs, Good L x) →
    addP f1 (col f1 f os L ++ ex) (l.map (na f1 f os L)) (xs.map (cw f1 f os L)) = ((addP f os l xs).1.map (na f1 f os L), (addP f os l xs).2) := by
  induction xs with
  | nil => intro l _ _; rfl
  | cons x xs ih =>
    intro l hl hx
    obtain ⟨l', e, hl'⟩ := add1_in hL.sub hl (hx x List.mem_cons_self)
    have e2 := add1_iso (f1 := f1) (ex := ex) hL hl (hx x List.mem_cons_self)
    rw [e] at e2
    rw [List.map_cons, addP_yes e2, addP_yes e]
    exact ih hl' (fun y hy => hx y (List.mem_cons_of_mem _ hy))
/-- The same walk behind the collection. -/
theorem walk_iso {xs : List Int} (h : walkP f os xs = (L, true)) : walkP f1 (col f1 f os L ++ ex) (xs.map (cw f1 f os L)) = (L.map (na f1 f os L), true) := by
  obtain ⟨h1, h2, h3, h4⟩ := walk_run h
  obtain ⟨hs, hg⟩ := walk_shut h
  have hL : Ord f os L := by have := Ord.walkP f os xs; rw [h] at this; exact this
  have hpre : ∀ k, k ≤ L.length → ∀ a ∈ it f os (addP f os [] xs).1 k, a ∈ L := fun k hk a ha => by
    have := it_pre h2 k (L.length - k)
    rw [show k + (L.length - k) = L.length by omega, h4] at this
    exact this.subset ha
  have hr := addP_iso (f1 := f1) (ex := ex) hL xs (l := []) (fun a ha => by cases ha) hg
  rw [List.map_nil, h1] at hr
  have go : ∀ d k m, k + d = L.length → d + 1 ≤ m → goP f1 (col f1 f os L ++ ex) m k ((it f os (addP f os [] xs).1 k).map (na f1 f os L)) = (L.map (na f1 f os L), true) := by
    intro d
    induction d with
    | zero =>
      intro k m hk hm
      obtain ⟨m, rfl⟩ : ∃ m', m = m' + 1 := ⟨m - 1, by omega⟩
      obtain rfl : k = L.length := by omega
      rw [h4, goP, List.getElem?_eq_none (by rw [List.length_map]; exact Nat.le_refl _)]
    | succ d ih =>
      intro k m hk hm
      obtain ⟨m, rfl⟩ : ∃ m', m = m' + 1 := ⟨m - 1, by omega⟩
      obtain ⟨p1, p2⟩ := h3 k (by omega)
      have ha : (it f os (addP f os [] xs).1 k)[k] ∈ L := hpre k (by omega) _ (List.getElem_mem p1)
      have e : (it f os (addP f os [] xs).1 k).getD k 0 = (it f os (addP f os [] xs).1 k)[k] := by simp [List.getD, p1]
      rw [e] at p2
      have hi := addP_iso (f1 := f1) (ex := ex) hL (tg f os (it f os (addP f os [] xs).1 k)[k]) (hpre k (by omega)) (hs.all _ ha)
      rw [← na_tg (f1 := f1) (ex := ex) hL ha, p2] at hi
      rw [goP, List.getElem?_map, List.getElem?_eq_getElem p1]
      simp only [Option.map_some, hi, if_true]
      have := ih (k + 1) m (by omega) (by omega)
      rw [it_succ, e] at this
      exact this
  unfold walkP
  rw [hr]
  simp only [if_true]
  have hlen : L.length ≤ (col f1 f os L ++ ex).length := by rw [List.length_append, col_len]; omega
  exact go L.length 0 _ (by omega) (by omega)
/-- What is reached needs as much as before. -/
theorem iso_flat (hL : Ord f os L) : (flat ((L.map (na f1 f os L)).map (obAt f1 (col f1 f os L ++ ex)))).length = (flat (L.map (obAt f os))).length := by
  have e : ((L.map (na f1 f os L)).map (obAt f1 (col f1 f os L ++ ex))).map (fun o => o.fs.length) = (L.map (obAt f os)).map (fun o => o.fs.length) := by
    rw [List.map_map, List.map_map, List.map_map]
    apply List.map_congr_left
    intro a ha
    obtain ⟨i, hi, rfl⟩ := List.mem_iff_getElem.1 ha
    have hic : i < (col f1 f os L ++ ex).length := by rw [List.length_append, col_len]; omega
    have hget : (col f1 f os L ++ ex)[i] = mapO (cw f1 f os L) (obAt f os L[i]).tag.toNat (obAt f os L[i]) := by
      rw [List.getElem_append_left (by rw [col_len]; exact hi)]
      simp [col]
    show (obAt f1 (col f1 f os L ++ ex) (na f1 f os L L[i])).fs.length = (obAt f os L[i]).fs.length
    rw [na_pos (ex := ex) hL i hi, obAt_at f1 _ i hic, hget, mapO_len]
  rw [flat_len, flat_len, e]
end Go.Proofs.Ytjccaojlldkmpaa.Mem

namespace Go.Proofs.Ytjccaojlldkmpaa.Mem
open Go.RowKit Go.Proofs.YtjccaojlldkmpaaW.PrintWords Go.Proofs.YtjccaojlldkmpaaW.PrintLast Go.Proofs.YtjccaojlldkmpaaW.PrintMore
open Hf (rightB hdr headOf partsOf)
open Pa (S71 k71 z71 rd_T71 at_T71)
open Open4 (i64 wf71)
set_option linter.unusedSimpArgs false
set_option linter.unusedVariables false
set_option maxRecDepth 100000
variable {S : Nat → Prop} {w W W' w' : World} {g n B : Nat} {st : St}
theorem below_fr {w : World} (h : Below w.heap.size w W) {T : Nat → Prop} (fr : Fr T W W') (hT : ∀ k, T k → w.heap.size ≤ k) : Below w.heap.size w W' :=
  ⟨fr.low.os.trans h.os, fr.low.tape.trans h.tape, fr.low.output.trans h.output, Nat.le_trans h.size fr.low.size, fun k hk => (fr.same k (Nat.lt_of_lt_of_le hk h.size) (fun hs => by have := hT k hs; omega)).trans (h.block k hk)⟩
end Go.Proofs.Ytjccaojlldkmpaa.Mem
namespace Go.Proofs.Ytjccaojlldkmpaa.Mem
open Go.RowKit Go.Proofs.YtjccaojlldkmpaaW.PrintWords Go.Proofs.YtjccaojlldkmpaaW.PrintLast Go.Proofs.YtjccaojlldkmpaaW.PrintMore
open Hf (rightB hdr headOf partsOf)
open Pa (S71 k71 z71 rd_T71 at_T71)
open Open4 (i64 wf71)
open Rg
set_option linter.unusedSimpArgs false
set_option linter.unusedVariables false
set_option maxRecDepth 100000
variable {S : Nat → Prop} {w W W' w' : World} {g n B : Nat} {st : St}
/-- A count in a box; all else lies as it lay. -/
def Cnt (w0 : World) (bn : Nat) (k : Int) (W : World) : Prop := W.heap[bn]? = some (.cells #[.int .i64 k] 3 (0, 0)) ∧ Fr (fun j => j = bn) w0 W
theorem cnt_row {row : Option Nat} {B' : Nat} (h : ∀ r, row = some r → B' ≤ r ∧ ∃ o : Obj, W.heap[r]? = some o ∧ o.isCells = false) {k : Nat} {o : Obj} (hk : W.heap[k]? = some o) (ho : o.isCells = true) : some k ≠ row := fun e => by
  obtain ⟨-, o', h1, h2⟩ := h _ e.symm
  rw [hk] at h1
  cases h1
  rw [ho] at h2
  cases h2
theorem Cnt.kept {w0 : World} {bn : Nat} {k : Int} (K : Cnt w0 bn k W) {B' : Nat} {row : Option Nat} (hg : W.grownBy W' row) (h : ∀ r, row = some r → B' ≤ r ∧ ∃ o : Obj, W.heap[r]? = some o ∧ o.isCells = false) (hB : w0.heap.size ≤ B') : Cnt w0 bn k W' :=
  ⟨(hg.block _ (blk_lt K.1) (cnt_row h K.1 rfl)).trans K.1, ⟨⟨hg.os.trans K.2.low.os, hg.tape.trans K.2.low.tape, hg.output.trans K.2.low.output, Nat.le_trans K.2.low.size hg.size, fun j hj => absurd hj (Nat.not_lt_zero j)⟩,
    fun j hj hn => (hg.block j (Nat.lt_of_lt_of_le hj K.2.low.size) (fun e => by have := (h j e.symm).1; omega)).trans (K.2.same j hj hn)⟩⟩
theorem Cnt.put {w0 : World} {bn : Nat} {k : Int} (K : Cnt w0 bn k W) (v : Int) : Cnt w0 bn v (W.setCell ⟨bn, 0, none⟩ (.int .i64 v)) :=
  ⟨blk_put K.1 0 _ rfl, K.2.trans (Fr.of_set W ⟨bn, 0, none⟩ _ rfl)⟩
theorem keeps_put {bn B' : Nat} {k v : Int} (h : W.heap[bn]? = some (.cells #[.int .i64 k] 3 (0, 0))) : KeepsFrom B' W (W.setCell ⟨bn, 0, none⟩ (.int .i64 v)) :=
  ⟨by rw [World.size_setCell]; exact Nat.le_refl _, fun j o _ ho hc => by
    by_cases e : j = bn
    · subst e
      rw [h] at ho
      cases ho
      cases hc
    · exact ((Fr.of_set (S := fun j => j = bn) W ⟨bn, 0, none⟩ (.int .i64 v) rfl).same j (Array.getElem?_eq_some_iff.1 ho).1 e).trans ho⟩
attribute [local go_sem] Oper.semAt_some
set_option maxHeartbeats 8000000 in
theorem least_any (A0 : Option Addr) (c0 : Nat) (l0 : List S71) (A1 : Option Addr) (c1 : Nat) (r1 : List Int) (w : World) (h0 : l0.length ≤ c0) (hC0 : Kd.C k71 w A0 l0.length l0) (hw : ∀ o ∈ l0, wf71 o)
    (hC1 : Kd.C (Kd.int .i64) w A1 r1.length r1) (h1 : r1.length ≤ c1) :
    Calls Try.prog 6 #[.slice A0 l0.length c0, .slice A1 r1.length c1] w fun e w' => e = .returned (.bool true) ∧ Below w.heap.size w w' := by
  have hu3 := Try.underlying3
  obtain ⟨m, l, hHf, hl40, hfine⟩ := heap_f l0 hw
  have hG := fine_gl l hl40 hfine
  obtain ⟨xs, hxf, hx50, hxu⟩ := words_f l hl40 hfine r1
  have hadr := adr_le l hfine
  obtain ⟨N, hN⟩ : ∃ N : Int, 64 + (adr l l.length : Int) = N := ⟨_, rfl⟩
  rw [hN] at hHf hG
  have hH := Pa.kindlingref04_Heap.calls m A0 c0 l0 l N w hC0 h0 hHf
  have hNN := Aside0.mk hN
  clear hN
  refine (callsIn_wide (n := 5)).1 (callsIn_of_wp_marks Try.func6 rfl trivial ?_ rfl)
  simp only [Try.ntmps6, List.size_toArray, List.length_cons, List.length_nil, Nat.reduceAdd, Nat.reduceSub, Array.replicate_succ, Array.replicate_zero, List.push_toArray, List.append_toArray, List.nil_append, List.cons_append]
  refine wpIn_wide.2 ?_
  go_wp2_with (first
    | (go_at_call 14; (with_reducible refine Calls.mono hH ?_); clear hH; rintro e w2 ⟨v2, rfl, hS2, hb2⟩
       obtain ⟨A, c, rfl, hc, hC⟩ := Kd.S_reads hS2
       have hMd := made_any (w := w2) (wvOf l) A c l N hC hc hG
       clear hS2)
    | (go_at_call 15; (with_reducible refine hMd.mono ?_); clear hMd; rintro e w5 ⟨g, rfl, M5⟩
       have hB5 := M5.1
       have P5 := M5.2.bound
       clear M5
       have hb5 := below_step hb2 hB5
       have hWa := Pa.kindlinglaw04_words.calls 200 A c l A1 c1 r1 xs w5 (Kd.C_below hC hB5) hc (Kd.C_below hC1 hb5) h1 hxf)
    | (go_at_call 17; (with_reducible refine hWa.mono ?_); clear hWa; rintro e w6 ⟨va, rfl, hRa, hb6⟩
       obtain ⟨Aa, ca, rfl⟩ := Kd.R_slice hRa
       have hCa := (Kd.R_reads' hRa).2.2
       have hbase := Kd.R_base hRa
       have hrlt := Kd.R_lt hRa
       have P6 := P5.below hb6
       have hb26 := below_step hb5 hb6
       have hs6 := hb6.size
       have hs2 := hb2.size
       clear hRa))
  have hfl0 : (flat (full (wvOf l) l)).length = adr l l.length := flat_adr (sto_lens _ _ _ _)
  obtain ⟨st, hst⟩ : ∃ st : St, (⟨N, 0, full (wvOf l) l, [], .map []⟩ : St) = st := ⟨_, rfl⟩
  have hstz : st.size = N ∧ st.half = 0 ∧ (flat st.os).length = adr l l.length := by rw [← hst]; exact ⟨rfl, rfl, hfl0⟩
  rw [hst] at P6
  clear hst hG hxf hHf hfine hC0 hC1 hw P5 hC hfl0 hb5 hB5 hb6
  cases hb : walkP st.f st.os xs with
  | mk L ok =>
  cases ok with
  | false =>
    have hLn := live_no P6 Aa ca xs hCa hxu (by omega) (by rw [hb])
    have hCo := fun W (hB : Below w6.heap.size w6 W) => collect_no (P6.below hB) Aa ca xs (Kd.C_below hCa hB) hxu (by omega) (by rw [hb])
    have hHf : ∀ W, Below w6.heap.size w6 W → Calls Try.prog 30 #[.pointer (some ⟨g, 0, none⟩)] W fun e w' => e = .returned (.int .i64 0) ∧ w' = W := fun W hB => by
      have h := (P6.below hB).half
      rw [hstz.2.1] at h
      exact h
    clear hb hstz
    go_wp2_with (first
      | (go_at_call 28; (with_reducible refine hLn.mono ?_); clear hLn; rintro e w7 ⟨rfl, hb7⟩)
      | (go_at_call 19; (with_reducible refine (hCo _ hb7).mono ?_); clear hCo; rintro e w8 ⟨rfl, hb8⟩
         have hb68 := below_step hb7 hb8)
      | (go_at_call 30; (with_reducible refine (hHf _ hb68).mono ?_); rintro e w9 ⟨rfl, rfl⟩)
      | (go_at_call 24; (with_reducible refine (known_any _).mono ?_); rintro e w10 ⟨rfl, hb10⟩))
    exact ⟨_, results_tmp rfl _ _ _, rfl, below_step (below_step hb26 hb68) hb10⟩
  | true =>
    have hOL : Ord st.f st.os L := by have := Ord.walkP st.f st.os xs; rw [hb] at this; exact this
    have hof := ord_fit hOL
    have hlL := hOL.len
    have hlo := P6.os_len
    rw [hstz.2.2] at hof
    have hLn := live_any P6 Aa ca xs hCa hxu (by omega) hb
    obtain ⟨fL, hfL⟩ : ∃ fL, (flat (L.map (obAt st.f st.os))).length = fL := ⟨_, rfl⟩
    rw [hfL] at hLn hof
    have hCo := fun W (hB : Below w6.heap.size w6 W) => collect_any (P6.below hB) (fun k h => by have := hB.size; omega) Aa ca xs (Kd.C_below hCa hB) hxu (by omega) (fun ad h => by
      subst h
      have h1 := hbase ad.block (by simp [Value.ownBlock])
      have h2 := hrlt ad.block (by simp [Value.ownBlock])
      exact ⟨fun h3 => by have := h3.2; omega, by have := hB.size; omega⟩) hb
    have hNo := hNN.out
    have hf1 : st.f2 = 1 + N := by unfold St.f2; rw [hstz.1, hstz.2.1]; omega
    have hcu : ∀ x ∈ xs.map (cw st.f2 st.f st.os L), 0 ≤ x ∧ x < 18446744073709551616 := by
      intro x hx
      obtain ⟨y, hy, rfl⟩ := List.mem_map.1 hx
      have hyu := hxu y hy
      unfold cw
      split
      · exact hyu
      · have h6 : pos (L.map (obAt st.f st.os)) (L.idxOf (y / 2)) ≤ (flat (L.map (obAt st.f st.os))).length := pos_mono _ _ (by rw [List.length_map]; exact List.idxOf_le_length)
        rw [hf1]
        omega
    have hwi := walk_iso (f1 := st.f2) (ex := []) hb
    rw [List.append_nil] at hwi
    have hRe : ∀ (S : Nat → Prop) (W : World) (D : DataW Unit) (B : Option Addr) (d : Nat), IsMem S W g (cst st (col st.f2 st.f st.os L) D) → Kd.C (Kd.int .u64) W B xs.length (xs.map (cw st.f2 st.f st.os L)) →
        (Calls Try.prog 27 #[.pointer (some ⟨g, 0, none⟩), .slice B xs.length d] W fun e w' => ∃ bo, e = .returned (.func (.func 65) #[] #[.pointer (some ⟨bo, 0, none⟩)]) ∧ SeqAt w' W.heap.size bo (L.map (na st.f2 st.f st.os L)) ∧ Below W.heap.size W w') := by
      intro S W D B d M hC
      have h := reach_any M B d (xs.map (cw st.f2 st.f st.os L)) (by rw [List.length_map]; exact hC) hcu (by rw [List.length_map]; omega)
      rw [List.length_map] at h
      have hr : reachL (cst st (col st.f2 st.f st.os L) D) (xs.map (cw st.f2 st.f st.os L)) = L.map (na st.f2 st.f st.os L) := by
        unfold reachL
        rw [show walkP (cst st (col st.f2 st.f st.os L) D).f (cst st (col st.f2 st.f st.os L) D).os (xs.map (cw st.f2 st.f st.os L)) = _ from hwi]
        rfl
      rw [hr] at h
      exact h
    have hLv : ∀ (S : Nat → Prop) (W : World) (D : DataW Unit) (B : Option Addr) (d : Nat), IsMem S W g (cst st (col st.f2 st.f st.os L) D) → Kd.C (Kd.int .u64) W B xs.length (xs.map (cw st.f2 st.f st.os L)) →
        (Calls Try.prog 28 #[.pointer (some ⟨g, 0, none⟩), .slice B xs.length d] W fun e w' => e = .returned (.tuple #[.int .i64 (fL : Int), .int .i64 0]) ∧ Below W.heap.size W w') := by
      intro S W D B d M hC
      have h := live_any M B d (xs.map (cw st.f2 st.f st.os L)) (by rw [List.length_map]; exact hC) hcu (by rw [List.length_map]; omega) hwi
      rw [List.length_map] at h
      have hi := iso_flat (f1 := st.f2) (ex := []) hOL
      rw [List.append_nil, hfL] at hi
      rw [show (flat ((L.map (na st.f2 st.f st.os L)).map (obAt (cst st (col st.f2 st.f st.os L) D).f (cst st (col st.f2 st.f st.os L) D).os))).length = fL from hi] at h
      exact h
    obtain ⟨Fm, hFm⟩ : ∃ Fm : Nat, N - (fL : Int) = (Fm : Int) := ⟨(N - (fL : Int)).toNat, by omega⟩
    have hFr : ∀ (S : Nat → Prop) (W : World) (D : DataW Unit), IsMem S W g (cst st (col st.f2 st.f st.os L) D) → (Calls Try.prog 32 #[.pointer (some ⟨g, 0, none⟩)] W fun e w' => e = .returned (.int .i64 (Fm : Int)) ∧ Drawn0 W w') := by
      intro S W D M
      have h := M.free
      rw [show (flat (cst st (col st.f2 st.f st.os L) D).os).length = fL from (col_flat _ _ _ _).trans hfL, show (cst st (col st.f2 st.f st.os L) D).size = N from hstz.1, hFm] at h
      exact h
    have hsub2 : IntKind.i64.wrap (N - (fL : Int)) = (Fm : Int) := by
      rw [IntKind.wrap_i64]
      omega
    have hsub : wrap64 (N - (fL : Int)) = (Fm : Int) := by rw [hFm, w64 (by omega)]
    have hlen1 : (L.map (na st.f2 st.f st.os L)).length = L.length := List.length_map _
    have hlen2 : (col st.f2 st.f st.os L).length = L.length := col_len _ _ _ _
    clear hwi hcu hNo hf1 hof hadr hstz hxu hbase hrlt hb hfL hFm
    go_wp2_with (first
      | (go_at_call 28; (with_reducible refine hLn.mono ?_); clear hLn; rintro e w7 ⟨rfl, hb7⟩)
      | (go_at_call 19; (with_reducible refine (hCo _ hb7).mono ?_); clear hCo; unfold Collected; rintro e w15 ⟨S15, B15, d15, D15, rfl, M15, hu15, hl15, hn15, ho15, hf15⟩
         have hC15 := (Kd.R_reads' ho15).2.2
         rw [List.length_map] at hC15
         have M16 := M15.below (below_alloc (Below.refl _ w15) (.cells #[.int .i64 0] 3))
         have hRR := hRe _ _ D15 B15 d15 M16 (Kd.C_below hC15 (below_alloc (Below.refl _ w15) (.cells #[.int .i64 0] 3)))
         have hltB : ∀ ad, B15 = some ad → ad.block < w15.heap.size := fun ad h => Kd.R_lt ho15 ad.block (by rw [h]; rfl)
         clear ho15 hn15)
      | (go_at_call 27; (with_reducible refine hRR.mono ?_); clear hRR; rintro e w17 ⟨bo, rfl, hSq, hb17⟩)
      | (go_at_call 31; (with_reducible refine (objects_any _ _).mono ?_); rintro e w18 ⟨rfl, rfl⟩
         have hnn1 := fun W => seq_there bo W
         have hnn2 := fun W => objs_there w17.heap.size W; refine Hid.out ?_))
    unfold Hid
    obtain ⟨hbo, Ar, cr, hT1, hT2⟩ := hSq
    have hbn17 : w17.heap[w15.heap.size]? = some (.cells #[.int .i64 0] 3 (0, 0)) := blk_below (blk_new w15 _) hb17
    rw [World.size_alloc] at hbo hT2
    have hs17 := hb17.size
    rw [World.size_alloc] at hs17
    have hB18 := below_alloc (Below.refl w17.heap.size w17) (.cells #[.pointer (some ⟨g, 0, none⟩)] 26)
    have hT1' := blk_alloc hT1 (.cells #[.pointer (some ⟨g, 0, none⟩)] 26)
    have hT2' := Kd.R_alloc hT2 (.cells #[.pointer (some ⟨g, 0, none⟩)] 26)
    have hBx := blk_new w17 (.cells #[.pointer (some ⟨g, 0, none⟩)] 26)
    have hbn18 := blk_alloc hbn17 (.cells #[.pointer (some ⟨g, 0, none⟩)] 26)
    have M18 := (M16.below hb17).below hB18
    have hC18 := Kd.C_below (Kd.C_below (Kd.C_below hC15 (below_alloc (Below.refl _ w15) (.cells #[.int .i64 0] 3))) hb17) hB18
    have hS0 : ∀ k, S15 k → w.heap.size ≤ k := fun k h => by
      have h6 := hb26.size
      have h7 := hb7.size
      rcases hu15 k h with h | h
      · have := h.1; omega
      · omega
    have hbF : Below w.heap.size w (w17.alloc (.cells #[.pointer (some ⟨g, 0, none⟩)] 26)) :=
      below_step (below_step (below_alloc (below_fr (below_step hb26 hb7) hf15 (fun k h => by have := h.1; omega)) (.cells #[.int .i64 0] 3)) hb17) hB18
    have hw15 : w.heap.size ≤ w15.heap.size := by
      have h6 := hb26.size
      have h7 := hb7.size
      have h8 := hf15.low.size
      omega
    have hsz18 : (w17.alloc (.cells #[.pointer (some ⟨g, 0, none⟩)] 26)).heap.size = w17.heap.size + 1 := World.size_alloc _ _
    obtain ⟨bn, hbnE⟩ : ∃ bn, w15.heap.size = bn := ⟨_, rfl⟩
    obtain ⟨Bx, hBxE⟩ : ∃ Bx, w17.heap.size = Bx := ⟨_, rfl⟩
    rw [hbnE] at hbn18 hT2' hbo hl15 hs17 hw15 hltB ⊢
    rw [hBxE] at hBx hsz18 hs17 hnn2 ⊢
    generalize w17.alloc (.cells #[.pointer (some ⟨g, 0, none⟩)] 26) = w18 at hT1' hT2' hBx hbn18 M18 hC18 hbF hsz18 ⊢
    have hI1 : ∀ (k : Int) (W : World), Cnt w18 bn k W → W.heap[bo]? = some (.cells #[.slice Ar (L.map (na st.f2 st.f st.os L)).length cr] 23 (0, 0)) ∧ (Kd.int .i64).R 3 W 0 (fun _ => True) (.slice Ar (L.map (na st.f2 st.f st.os L)).length cr) (L.map (na st.f2 st.f st.os L)) := fun k W K =>
      ⟨(K.2.same _ (blk_lt hT1') (fun e => by rw [e, hbn18] at hT1'; cases hT1')).trans hT1', Kd.R_lower (R_fr hT2' K.2 (fun j hj e => by have := Kd.R_base hT2' j hj; omega)) (Nat.zero_le _)⟩
    have hI2 : ∀ (k : Int) (W : World), Cnt w18 bn k W → W.heap[Bx]? = some (.cells #[.pointer (some ⟨g, 0, none⟩)] 26 (0, 0)) ∧ IsMem S15 W g (cst st (col st.f2 st.f st.os L) D15) := fun k W K =>
      ⟨(K.2.same _ (blk_lt hBx) (fun e => by rw [e, hbn18] at hBx; cases hBx)).trans hBx, M18.keep K.2 (fun j hj e => by have := hl15 j hj; omega)⟩
    have hI3 : ∀ (k : Int) (W : World), Cnt w18 bn k W → Kd.C (Kd.int .u64) W B15 xs.length (xs.map (cw st.f2 st.f st.os L)) := fun k W K => C_fr hC18 K.2 (fun ad h e => by have := hltB ad h; omega)
    have hK0 : Cnt w18 bn 0 w18 := ⟨hbn18, Fr.refl _ _⟩
    have hbn0 : bn < w18.heap.size := blk_lt hbn18
    clear hT1 hT2 hbn17 hB18 hT1' hT2' M18 hC18 M16 M15 hC15 hb17 hbnE hBxE hu15
    go_wp2_with fail
    refine (wpIn_wide (n := 5)).1 ?_
    refine' range_all (F := Fence.wide) (n := 5) rfl (by omega) (gf := 65) (lb := #[.pointer (some ⟨bo, 0, none⟩)]) rfl trivial (enters_of Try.func65 (by kernel_rfl) rfl)
      (encs := fun k => #[.int .i64 (rdOf 0 (L.map (na st.f2 st.f st.os L)) (k : Int))]) (N := (L.map (na st.f2 st.f st.os L)).length) (fun k W => Cnt w18 bn (k : Int) W)
      (w0 := w18) (reach_feeds Fence.wide (5 - 1) trivial rfl (by omega) bo (L.map (na st.f2 st.f st.os L)) _ w18 Ar cr (by rw [hlen1]; omega) (fun k W K => hI1 _ W K)) (Below.refl _ _) (fun _ => rfl) ?own ?h0 _ ?assign ?body ?done
    case own =>
      intro k W W' row K hg hr
      exact K.kept hg hr (Nat.le_refl _)
    case h0 => exact hK0
    case assign =>
      intro l k W K' hK
      gi_wp2
      exact hK
    case body =>
      intro l k W K hk
      rw [hlen1] at hk
      have hcn : W.cell? ⟨bn, 0, none⟩ = some (.int .i64 (k : Int)) := (blk_cell K.1 0).trans rfl
      have hfn := blk_frozen K.1 0
      have hkl : (k : Int) + 1 ≤ 1000000 := by omega
      gi_wp2_with fail
      exact ⟨keeps_put K.1, by
        have := K.put ((k : Int) + 1)
        exact this⟩
    case done =>
      intro D1 W1 hD1 K1 hdf1
      rw [hlen1] at K1
      have hD1n : D1 ≠ bn := by omega
      have hz1 := K1.2.low.size
      have hI4 : ∀ (k : Nat) (W : World), k ≤ L.length → (Cnt w18 bn ((L.length : Int) - (k : Int)) W ∧ W.heap[D1]? = some (.deferred (some []))) → W.heap[Bx]? = some (.cells #[.pointer (some ⟨g, 0, none⟩)] 26 (0, 0)) ∧ ∃ S D, IsMem S W g { cst st (col st.f2 st.f st.os L) D15 with mvd := D } := fun k W _ K =>
        ⟨(hI2 _ W K.1).1, S15, D15, (hI2 _ W K.1).2⟩
      have hF1 : ∀ k : Nat, k < L.length → k < (cst st (col st.f2 st.f st.os L) D15).os.length := fun k hk => by
        show k < (col st.f2 st.f st.os L).length
        omega
      have hF2 : (cst st (col st.f2 st.f st.os L) D15).os.length = L.length := hlen2
      go_wp2_with fail
      refine (wpIn_wide (n := 5)).1 ?_
      refine' range_all (F := Fence.wide) (n := 5) rfl (by omega) (gf := 66) (lb := #[.pointer (some ⟨Bx, 0, none⟩)]) rfl trivial (enters_of Try.func66 (by kernel_rfl) rfl)
        (encs := fun k => #[.int .i64 ((cst st (col st.f2 st.f st.os L) D15).f + (pos (cst st (col st.f2 st.f st.os L) D15).os k : Int))]) (N := L.length) (fun k W => Cnt w18 bn ((L.length : Int) - (k : Int)) W ∧ W.heap[D1]? = some (.deferred (some [])))
        (w0 := W1) (objs_feeds Fence.wide (5 - 1) trivial rfl (by omega) Bx L.length (fun _ => cst st (col st.f2 st.f st.os L) D15) _ W1 hI4 hF1 hF2) (Below.refl _ _) (fun _ => rfl) ?own ?h0 _ ?assign ?body ?done
      case own =>
        rintro k W W' row ⟨K, hd⟩ hg hr
        exact ⟨K.kept hg hr hz1, (hg.block _ (Array.getElem?_eq_some_iff.1 hd).1 (fun e => by
          have := (hr _ e.symm).1
          have := (Array.getElem?_eq_some_iff.1 hdf1).1
          omega)).trans hd⟩
      case h0 => exact ⟨by simpa using K1, hdf1⟩
      case assign =>
        intro l k W K' hK
        gi_wp2
        exact hK
      case body =>
        rintro l k W ⟨K, hd⟩ hk
        obtain ⟨v, hv⟩ : ∃ v : Nat, (L.length : Int) - (k : Int) = (v : Int) := ⟨L.length - k, by omega⟩
        rw [hv] at K
        have hcn : W.cell? ⟨bn, 0, none⟩ = some (.int .i64 (v : Int)) := (blk_cell K.1 0).trans rfl
        have hfn := blk_frozen K.1 0
        have hkl : (v : Int) ≤ 1000000 := by omega
        have hkl2 : 1 ≤ (v : Int) := by omega
        gi_wp2_with fail
        exact ⟨keeps_put K.1, by
          have := K.put ((v : Int) - 1)
          rw [show (L.length : Int) - ((k + 1 : Nat) : Int) = (v : Int) - 1 by omega]
          exact this, (Below.heap_setCell _ ⟨bn, 0, none⟩ _ D1 hD1n).trans hd⟩
      case done =>
        rintro D2 W2 hD2 ⟨K2, hd1⟩ hd2
        rw [Int.sub_self] at K2
        have hcn : W2.cell? ⟨bn, 0, none⟩ = some (.int .i64 0) := (blk_cell K2.1 0).trans rfl
        have hfn := blk_frozen K2.1 0
        have M2 := (hI2 _ W2 K2).2
        have hLL := hLv _ W2 D15 B15 d15 M2 (hI3 _ W2 K2)
        go_wp2_with (first
          | (go_at_call 28; (with_reducible refine hLL.mono ?_); clear hLL; rintro e w19 ⟨rfl, hb19⟩
             have M19 := M2.below hb19
             have hcn := (blk_cell (blk_below K2.1 hb19) 0).trans rfl
             have hfn := blk_frozen (blk_below K2.1 hb19) 0
             have hFF := hFr _ w19 D15 M19)
          | (go_at_call 32; (with_reducible refine hFF.mono ?_); clear hFF; rintro e w20 ⟨rfl, hd20⟩)
          | (go_at_call 24; (with_reducible refine (known_any _).mono ?_); rintro e w21 ⟨rfl, hb21⟩))
        have hb2w : Below w.heap.size w W2 := below_fr hbF K2.2 (fun k e => by omega)
        have hb21w := below_step (below_step (below_step hb2w hb19) hd20.below) hb21
        have hs2 := K2.2.low.size
        have k1 := (hb21.block _ (Nat.lt_of_lt_of_le (Nat.lt_of_lt_of_le (Array.getElem?_eq_some_iff.1 hd1).1 hb19.size) hd20.below.size)).trans ((hd20.below.block _ (Nat.lt_of_lt_of_le (Array.getElem?_eq_some_iff.1 hd1).1 hb19.size)).trans ((hb19.block _ (Array.getElem?_eq_some_iff.1 hd1).1).trans hd1))
        have k2 := (hb21.block _ (Nat.lt_of_lt_of_le (Nat.lt_of_lt_of_le (Array.getElem?_eq_some_iff.1 hd2).1 hb19.size) hd20.below.size)).trans ((hd20.below.block _ (Nat.lt_of_lt_of_le (Array.getElem?_eq_some_iff.1 hd2).1 hb19.size)).trans ((hb19.block _ (Array.getElem?_eq_some_iff.1 hd2).1).trans hd2))
        have hne : D1 ≠ D2 := by
          have := (Array.getElem?_eq_some_iff.1 hdf1).1
          omega
        have k1' : (w21.putObj D2 (.deferred none)).heap[D1]? = some (.deferred (some [])) := (World.putObj_heap_other hne).trans k1
        refine ⟨by simp, .inl ⟨_, _, rfl, run_takeDeferred k2, by simp, .inl ⟨_, _, rfl, run_takeDeferred k1', ?_⟩⟩⟩
        exact ⟨_, results_tmp rfl _ _ _, rfl, (hb21w.grown (grownBy_putObj' w21 D2 (.deferred none)) hb21w.size (fun k e => by cases e; omega)).grown (grownBy_putObj' _ D1 (.deferred none)) (by have := hb21w.size; simp [World.putObj]; omega) (fun k e => by cases e; omega)⟩
theorem least_walk (a0 : Option Addr) (c0 : Nat) (l0 : List S71) (a1 : Option Addr) (len1 cap1 : Nat) (z1 : List Int) (w : World) (h0 : l0.length ≤ c0) (hC0 : Kd.C k71 w a0 l0.length l0) (hw : ∀ o ∈ l0, wf71 o)
    (w1 : (a1 = none ∧ len1 = 0 ∧ cap1 = 0 ∧ z1 = []) ∨ ∃ x, a1 = some x ∧ len1 ≤ cap1 ∧ cap1 ≤ maxLen ∧ z1.length = cap1 ∧ (∀ i, i < z1.length → w.cell? (x.add i) = some (.int .i64 (z1.getD i 0))) ∧ ∀ n ∈ z1, (Lit.int .i64 n).wf = true) (y1 : len1 * 8 ≤ 140737488351232) :
    Calls Try.prog 6 #[.slice a0 l0.length c0, .slice a1 len1 cap1] w fun e w' => e = .returned (.bool true) ∧ Below w.heap.size w w' := by
  obtain ⟨l1, rfl, hr1, hm1, hw1, hc1⟩ := ReadsInt.ofRowC w1
  exact least_any a0 c0 l0 a1 cap1 l1 w h0 hC0 hw (Kd.C_of_reads (d := (0 : Int)) (h1 := fun _ => rfl) hr1) hc1
end Go.Proofs.Ytjccaojlldkmpaa.Mem
