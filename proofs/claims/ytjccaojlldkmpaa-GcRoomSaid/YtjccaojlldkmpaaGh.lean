/- The law GcRoom, walked; closed sets; behind a collection the same can be reached, in the same order. -/
import Derived.Test.YtjccaojlldkmpaaKn4
import Derived.Test.YtjccaojlldkmpaaHp
import Derived.Test.YtjccaojlldkmpaaGq
namespace Go.Proofs.Ytjccaojlldkmpaa.Mem
open Go.RowKit
open Hf (rightB hdr headOf partsOf)
set_option linter.unusedSimpArgs false
set_option linter.unusedVariables false
variable {f : Int} {os : List O}
/-- A word that is an integer's, or of an object of the set. -/
def Good (C : List Int) (x : Int) : Prop := x % 2 = 1 ∨ x / 2 ∈ C
/-- A set of objects whose fields lead to it alone. -/
structure Shut (f : Int) (os : List O) (C : List Int) : Prop where
  sub : ∀ a ∈ C, a ∈ heads f os
  all : ∀ a ∈ C, ∀ x ∈ tg f os a, Good C x
theorem add1_in {C l : List Int} {x : Int} (h : ∀ a ∈ C, a ∈ heads f os) (hl : ∀ a ∈ l, a ∈ C) (hx : Good C x) : ∃ l', add1 f os l x = some l' ∧ ∀ a ∈ l', a ∈ C := by
  unfold add1
  by_cases h1 : x % 2 = 1
  · rw [if_pos h1]; exact ⟨l, rfl, hl⟩
  · have h2 : x / 2 ∈ C := by
      rcases hx with hx | hx
      · exact absurd hx h1
      · exact hx
    rw [if_neg h1, if_pos (h _ h2)]
    by_cases h3 : x / 2 ∈ l
    · rw [if_pos h3]; exact ⟨l, rfl, hl⟩
    · rw [if_neg h3]
      refine ⟨_, rfl, fun a ha => ?_⟩
      rw [List.mem_append, List.mem_singleton] at ha
      rcases ha with ha | rfl
      · exact hl a ha
      · exact h2
theorem addP_in {C : List Int} (h : ∀ a ∈ C, a ∈ heads f os) (xs : List Int) : ∀ {l : List Int}, (∀ a ∈ l, a ∈ C) → (∀ x ∈ xs, Good C x) → (addP f os l xs).2 = true ∧ ∀ a ∈ (addP f os l xs).1, a ∈ C := by
  induction xs with
  | nil => intro l hl _; exact ⟨rfl, hl⟩
  | cons x xs ih =>
    intro l hl hx
    obtain ⟨l', e, hl'⟩ := add1_in h hl (hx x List.mem_cons_self)
    rw [addP_yes e]
    exact ih hl' (fun y hy => hx y (List.mem_cons_of_mem _ hy))
theorem goP_in {C : List Int} (h : Shut f os C) (n : Nat) : ∀ (i : Nat) {l : List Int}, (∀ a ∈ l, a ∈ C) → (goP f os n i l).2 = true ∧ ∀ a ∈ (goP f os n i l).1, a ∈ C := by
  induction n with
  | zero => intro i l hl; exact ⟨rfl, hl⟩
  | succ n ih =>
    intro i l hl
    rw [goP]
    cases e : l[i]? with
    | none => exact ⟨rfl, hl⟩
    | some a =>
      have ha : a ∈ C := hl a (List.mem_of_getElem? e)
      obtain ⟨h1, h2⟩ := addP_in h.sub (tg f os a) hl (h.all a ha)
      simp only [h1, if_true]
      exact ih (i + 1) h2
theorem walkP_in {C xs : List Int} (h : Shut f os C) (hx : ∀ x ∈ xs, Good C x) : (walkP f os xs).2 = true ∧ ∀ a ∈ (walkP f os xs).1, a ∈ C := by
  obtain ⟨h1, h2⟩ := addP_in h.sub xs (l := []) (fun a ha => by cases ha) hx
  unfold walkP
  rw [if_pos h1]
  exact goP_in h _ 0 h2
theorem add1_good {l l' : List Int} {x : Int} (e : add1 f os l x = some l') : Good l' x := by
  by_cases h1 : x % 2 = 1
  · exact .inl h1
  · obtain ⟨h2, ⟨h3, rfl⟩ | ⟨h3, rfl⟩⟩ := add1_even h1 e
    · exact .inr h3
    · exact .inr (by simp)
theorem Good.mono {C D : List Int} {x : Int} (h : Good C x) (hs : ∀ a ∈ C, a ∈ D) : Good D x := h.imp id (fun h => hs _ h)
theorem addP_good (xs : List Int) : ∀ {l : List Int}, Ord f os l → (addP f os l xs).2 = true → ∀ x ∈ xs, Good (addP f os l xs).1 x := by
  induction xs with
  | nil => intro l _ _ x hx; cases hx
  | cons y xs ih =>
    intro l hl h x hx
    cases e : add1 f os l y with
    | none => rw [addP_no e] at h; cases h
    | some l' =>
      rw [addP_yes e] at h ⊢
      have ho := (hl.add1 e).1
      rcases List.mem_cons.1 hx with rfl | hx
      · exact (add1_good e).mono (fun a ha => (ho.addP xs).2.subset ha)
      · exact ih ho h x hx
/-- A walk that went well ends in a closed set. -/
theorem walk_shut {xs L : List Int} (h : walkP f os xs = (L, true)) : Shut f os L ∧ ∀ x ∈ xs, Good L x := by
  obtain ⟨h1, h2, h3, h4⟩ := walk_run h
  have hpre : ∀ k, k ≤ L.length → ∀ a ∈ it f os (addP f os [] xs).1 k, a ∈ L := fun k hk a ha => by
    have := it_pre h2 k (L.length - k)
    rw [show k + (L.length - k) = L.length by omega, h4] at this
    exact this.subset ha
  refine ⟨⟨fun a ha => ?_, fun a ha x hx => ?_⟩, fun x hx => ?_⟩
  · have hO := it_ord h2 L.length
    rw [h4] at hO
    exact hO.sub a ha
  · obtain ⟨k, hk, rfl⟩ := List.mem_iff_getElem.1 ha
    obtain ⟨p1, p2⟩ := h3 k hk
    have e : (it f os (addP f os [] xs).1 k).getD k 0 = L[k] := by
      have hp := it_pre h2 k (L.length - k)
      rw [show k + (L.length - k) = L.length by omega, h4] at hp
      rw [prefix_get hp k p1 hk]
      simp [List.getD, p1]
    have hg := addP_good _ (it_ord h2 k) p2
    rw [e] at hg
    refine (hg x hx).mono (fun b hb => hpre (k + 1) (by omega) b ?_)
    rw [it_succ, e]
    exact hb
  · exact (addP_good xs (Ord.nil f os) h1 x hx).mono (hpre 0 (Nat.zero_le _))
/-- Words that lead to what is there change nothing. -/
theorem addP_same {l : List Int} (hl : ∀ a ∈ l, a ∈ heads f os) (xs : List Int) (hx : ∀ x ∈ xs, Good l x) : addP f os l xs = (l, true) := by
  induction xs with
  | nil => rfl
  | cons y xs ih =>
    have e : add1 f os l y = some l := by
      unfold add1
      by_cases h1 : y % 2 = 1
      · rw [if_pos h1]
      · have h2 : y / 2 ∈ l := by
          rcases hx y List.mem_cons_self with h | h
          · exact absurd h h1
          · exact h
        rw [if_neg h1, if_pos (hl _ h2), if_pos h2]
    rw [addP_yes e]
    exact ih (fun x h => hx x (List.mem_cons_of_mem _ h))
theorem walk_twice {xs L : List Int} (h : walkP f os xs = (L, true)) : walkP f os (xs ++ xs) = (L, true) := by
  obtain ⟨h1, h2, -, -⟩ := walk_run h
  have h3 : addP f os [] (xs ++ xs) = addP f os [] xs := by
    rw [addP_append, if_pos h1, addP_same h2.sub xs (addP_good xs (Ord.nil f os) h1)]
    exact Prod.ext rfl h1.symm
  unfold walkP at h ⊢
  rw [h3]
  exact h
theorem tot_sub (ns : List Nat) : ∀ (l l' : List Nat), l.Nodup → (∀ a ∈ l, a ∈ l') → tot ns l ≤ tot ns l'
  | [], l', _, _ => Nat.zero_le _
  | a :: l, l', hn, hs => by
    rw [List.nodup_cons] at hn
    have ha := hs a List.mem_cons_self
    have h1 := tot_erase ns a l' ha
    have h2 := tot_sub ns l (l'.erase a) hn.2 (fun b hb => by
      have hne : b ≠ a := fun e => hn.1 (by rw [← e]; exact hb)
      exact (List.mem_erase_of_ne hne).2 (hs b (List.mem_cons_of_mem _ hb)))
    have h3 : tot ns (a :: l) = (ns.getD a 0 + 1) + tot ns l := by simp [tot]
    omega
theorem flat_tot {l : List Int} (h : Ord f os l) : (flat (l.map (obAt f os))).length = tot (os.map (fun o => o.fs.length)) (l.map (fun a => (heads f os).idxOf a)) := by
  rw [flat_len]
  unfold tot
  rw [List.map_map, List.map_map, List.map_map]
  congr 1
  apply List.map_congr_left
  intro a ha
  obtain ⟨i, hi, rfl⟩ := mem_heads.1 (h.sub a ha)
  simp only [Function.comp_def, obAt_at f os i hi, heads_idx f os i hi]
  simp [List.getD, hi]
theorem idx_nodup {l : List Int} (h : Ord f os l) : (l.map (fun a => (heads f os).idxOf a)).Nodup := by
  rw [List.Nodup, List.pairwise_map]
  refine List.Pairwise.imp_of_mem ?_ h.nd
  intro a b ha hb hab e
  obtain ⟨i, hi, rfl⟩ := mem_heads.1 (h.sub a ha)
  obtain ⟨j, hj, rfl⟩ := mem_heads.1 (h.sub b hb)
  rw [heads_idx f os i hi, heads_idx f os j hj] at e
  exact hab (by rw [e])
/-- More roots reach no less. -/
theorem walk_grows {xs ys L : List Int} (h : walkP f os (xs ++ ys) = (L, true)) : ∃ K, walkP f os xs = (K, true) ∧ (flat (K.map (obAt f os))).length ≤ (flat (L.map (obAt f os))).length := by
  obtain ⟨h1, h2⟩ := walk_shut h
  obtain ⟨h3, h4⟩ := walkP_in h1 (fun x hx => h2 x (List.mem_append_left _ hx))
  refine ⟨(walkP f os xs).1, Prod.ext rfl h3, ?_⟩
  have hK := Ord.walkP f os xs
  have hL : Ord f os L := by have := Ord.walkP f os (xs ++ ys); rw [h] at this; exact this
  rw [flat_tot hK, flat_tot hL]
  apply tot_sub _ _ _ (idx_nodup hK)
  intro a ha
  obtain ⟨b, hb, rfl⟩ := List.mem_map.1 ha
  exact List.mem_map.2 ⟨b, h4 b hb, rfl⟩
end Go.Proofs.Ytjccaojlldkmpaa.Mem

namespace Go.Proofs.Ytjccaojlldkmpaa.Mem
open Go.RowKit
open Hf (rightB hdr headOf partsOf)
set_option linter.unusedSimpArgs false
set_option linter.unusedVariables false
variable {f f1 : Int} {os ex : List O} {L : List Int}
/-- Where an object goes. -/
def na (f1 f : Int) (os : List O) (L : List Int) (a : Int) : Int := f1 + (pos (L.map (obAt f os)) (L.idxOf a) : Int)
/-- The objects behind the collection. -/
def col (f1 f : Int) (os : List O) (L : List Int) : List O := L.map fun a => mapO (cw f1 f os L) (obAt f os a).tag.toNat (obAt f os a)
theorem col_lens (f1 f : Int) (os : List O) (L : List Int) : (col f1 f os L).map (fun o => o.fs.length) = (L.map (obAt f os)).map (fun o => o.fs.length) := by
  unfold col
  rw [List.map_map, List.map_map]
  apply List.map_congr_left
  intro a _
  exact mapO_len _ _ _
theorem col_flat (f1 f : Int) (os : List O) (L : List Int) : (flat (col f1 f os L)).length = (flat (L.map (obAt f os))).length := by rw [flat_len, flat_len, col_lens]
theorem col_len (f1 f : Int) (os : List O) (L : List Int) : (col f1 f os L).length = L.length := by simp [col]
theorem pos_ext (a b : List O) (p : Nat) (h : p ≤ a.length) : pos (a ++ b) p = pos a p := by
  unfold pos
  rw [List.take_append_of_le_length h]
theorem na_pos (hL : Ord f os L) (i : Nat) (hi : i < L.length) : na f1 f os L L[i] = f1 + (pos (col f1 f os L ++ ex) i : Int) := by
  unfold na
  rw [hL.nd.idxOf_getElem i hi, pos_ext _ _ _ (by rw [col_len]; omega), pos_lens (col_lens f1 f os L)]
theorem na_head (hL : Ord f os L) {a : Int} (ha : a ∈ L) : na f1 f os L a ∈ heads f1 (col f1 f os L ++ ex) := by
  obtain ⟨i, hi, rfl⟩ := List.mem_iff_getElem.1 ha
  exact mem_heads.2 ⟨i, by rw [List.length_append, col_len]; omega, na_pos hL i hi⟩
theorem na_inj (hL : Ord f os L) {a b : Int} (ha : a ∈ L) (hb : b ∈ L) (e : na f1 f os L a = na f1 f os L b) : a = b := by
  obtain ⟨i, hi, rfl⟩ := List.mem_iff_getElem.1 ha
  obtain ⟨j, hj, rfl⟩ := List.mem_iff_getElem.1 hb
  rw [na_pos (ex := []) hL i hi, na_pos (ex := []) hL j hj] at e
  have h : i = j := pos_inj (os := col f1 f os L ++ []) (by rw [List.length_append, col_len]; omega) (by rw [List.length_append, col_len]; omega) (by omega)
  subst h
  rfl
theorem cw_odd {x : Int} (h : x % 2 = 1) : cw f1 f os L x = x := if_pos h
theorem cw_even {x : Int} (h : ¬ x % 2 = 1) : cw f1 f os L x = 2 * na f1 f os L (x / 2) := if_neg h
theorem take_map (c : Int → Int) (fs : List Int) (q : Nat) : ((fs.take q).map c ++ fs.drop q).take q = (fs.take q).map c := by
  by_cases h : q ≤ fs.length
  · exact List.take_left' (by rw [List.length_map, List.length_take]; omega)
  · rw [List.drop_of_length_le (by omega), List.append_nil, List.take_of_length_le (by rw [List.length_map, List.length_take]; omega)]
theorem na_tg (hL : Ord f os L) {a : Int} (ha : a ∈ L) : tg f1 (col f1 f os L ++ ex) (na f1 f os L a) = (tg f os a).map (cw f1 f os L) := by
  obtain ⟨i, hi, rfl⟩ := List.mem_iff_getElem.1 ha
  have hic : i < (col f1 f os L ++ ex).length := by rw [List.length_append, col_len]; omega
  have hget : (col f1 f os L ++ ex)[i] = mapO (cw f1 f os L) (obAt f os L[i]).tag.toNat (obAt f os L[i]) := by
    rw [List.getElem_append_left (by rw [col_len]; exact hi)]
    simp [col]
  rw [na_pos (ex := ex) hL i hi, tg_at f1 _ i hic, hget, tg_obAt f os L[i] (hL.sub _ ha)]
  exact take_map _ _ _
theorem add1_iso (hL : Ord f os L) {l : List Int} (hl : ∀ a ∈ l, a ∈ L) {x : Int} (hx : Good L x) : add1 f1 (col f1 f os L ++ ex) (l.map (na f1 f os L)) (cw f1 f os L x) = (add1 f os l x).map (fun l => l.map (na f1 f os L)) := by
  unfold add1
  by_cases h1 : x % 2 = 1
  · rw [cw_odd h1, if_pos h1, if_pos h1]
    rfl
  · have h2 : x / 2 ∈ L := by
      rcases hx with hx | hx
      · exact absurd hx h1
      · exact hx
    rw [cw_even h1, if_neg (by omega), show 2 * na f1 f os L (x / 2) / 2 = na f1 f os L (x / 2) by omega, if_pos (na_head hL h2), if_neg h1, if_pos (hL.sub _ h2)]
    by_cases h3 : x / 2 ∈ l
    · rw [if_pos h3, if_pos (List.mem_map.2 ⟨_, h3, rfl⟩)]
      rfl
    · rw [if_neg h3, if_neg (fun h => by
        obtain ⟨b, hb, e⟩ := List.mem_map.1 h
        exact h3 (na_inj hL (hl b hb) h2 e ▸ hb))]
      simp
theorem addP_iso (hL : Ord f os L) (xs : List Int) : ∀ {l : List Int}, (∀ a ∈ l, a ∈ L) → (∀ x ∈ xs, Good L x) →
    addP f1 (col f1 f os L ++ ex) (l.map (na f1 f os L)) (xs.map (cw f1 f os L)) = ((addP f os l xs).1.map (na f1 f os L), (addP f os l xs).2) := by
  induction xs with
  | nil => intro l _ _; rfl
  | cons x xs ih =>
    intro l hl hx
    obtain ⟨l', e, hl'⟩ := add1_in hL.sub hl (hx x List.mem_cons_self)
    have e2 := add1_iso (f1 := f1) (ex := ex) hL hl (hx x List.mem_cons_self)
    rw [e] at e2
    rw [List.map_cons, addP_yes e2, addP_yes e]
    exact ih hl' (fun y hy => hx y (List.mem_cons_of_mem _ hy))
/-- The same walk behind the collection. -/
theorem walk_iso {xs : List Int} (h : walkP f os xs = (L, true)) : walkP f1 (col f1 f os L ++ ex) (xs.map (cw f1 f os L)) = (L.map (na f1 f os L), true) := by
  obtain ⟨h1, h2, h3, h4⟩ := walk_run h
  obtain ⟨hs, hg⟩ := walk_shut h
  have hL : Ord f os L := by have := Ord.walkP f os xs; rw [h] at this; exact this
  have hpre : ∀ k, k ≤ L.length → ∀ a ∈ it f os (addP f os [] xs).1 k, a ∈ L := fun k hk a ha => by
    have := it_pre h2 k (L.length - k)
    rw [show k + (L.length - k) = L.length by omega, h4] at this
    exact this.subset ha
  have hr := addP_iso (f1 := f1) (ex := ex) hL xs (l := []) (fun a ha => by cases ha) hg
  rw [List.map_nil, h1] at hr
  have go : ∀ d k m, k + d = L.length → d + 1 ≤ m → goP f1 (col f1 f os L ++ ex) m k ((it f os (addP f os [] xs).1 k).map (na f1 f os L)) = (L.map (na f1 f os L), true) := by
    intro d
    induction d with
    | zero =>
      intro k m hk hm
      obtain ⟨m, rfl⟩ : ∃ m', m = m' + 1 := ⟨m - 1, by omega⟩
      obtain rfl : k = L.length := by omega
      rw [h4, goP, List.getElem?_eq_none (by rw [List.length_map]; exact Nat.le_refl _)]
    | succ d ih =>
      intro k m hk hm
      obtain ⟨m, rfl⟩ : ∃ m', m = m' + 1 := ⟨m - 1, by omega⟩
      obtain ⟨p1, p2⟩ := h3 k (by omega)
      have ha : (it f os (addP f os [] xs).1 k)[k] ∈ L := hpre k (by omega) _ (List.getElem_mem p1)
      have e : (it f os (addP f os [] xs).1 k).getD k 0 = (it f os (addP f os [] xs).1 k)[k] := by simp [List.getD, p1]
      rw [e] at p2
      have hi := addP_iso (f1 := f1) (ex := ex) hL (tg f os (it f os (addP f os [] xs).1 k)[k]) (hpre k (by omega)) (hs.all _ ha)
      rw [← na_tg (f1 := f1) (ex := ex) hL ha, p2] at hi
      rw [goP, List.getElem?_map, List.getElem?_eq_getElem p1]
      simp only [Option.map_some, hi, if_true]
      have := ih (k + 1) m (by omega) (by omega)
      rw [it_succ, e] at this
      exact this
  unfold walkP
  rw [hr]
  simp only [if_true]
  have hlen : L.length ≤ (col f1 f os L ++ ex).length := by rw [List.length_append, col_len]; omega
  exact go L.length 0 _ (by omega) (by omega)
/-- What is reached needs as much as before. -/
theorem iso_flat (hL : Ord f os L) : (flat ((L.map (na f1 f os L)).map (obAt f1 (col f1 f os L ++ ex)))).length = (flat (L.map (obAt f os))).length := by
  have e : ((L.map (na f1 f os L)).map (obAt f1 (col f1 f os L ++ ex))).map (fun o => o.fs.length) = (L.map (obAt f os)).map (fun o => o.fs.length) := by
    rw [List.map_map, List.map_map, List.map_map]
    apply List.map_congr_left
    intro a ha
    obtain ⟨i, hi, rfl⟩ := List.mem_iff_getElem.1 ha
    have hic : i < (col f1 f os L ++ ex).length := by rw [List.length_append, col_len]; omega
    have hget : (col f1 f os L ++ ex)[i] = mapO (cw f1 f os L) (obAt f os L[i]).tag.toNat (obAt f os L[i]) := by
      rw [List.getElem_append_left (by rw [col_len]; exact hi)]
      simp [col]
    show (obAt f1 (col f1 f os L ++ ex) (na f1 f os L L[i])).fs.length = (obAt f os L[i]).fs.length
    rw [na_pos (ex := ex) hL i hi, obAt_at f1 _ i hic, hget, mapO_len]
  rw [flat_len, flat_len, e]
end Go.Proofs.Ytjccaojlldkmpaa.Mem

namespace Go.Proofs.Ytjccaojlldkmpaa.Mem
open Go.RowKit Go.Proofs.YtjccaojlldkmpaaW.PrintWords Go.Proofs.YtjccaojlldkmpaaW.PrintLast Go.Proofs.YtjccaojlldkmpaaW.PrintMore
open Hf (rightB hdr headOf partsOf)
open Pa (S71 k71 z71 rd_T71 at_T71)
open Open4 (i64 wf71)
set_option linter.unusedSimpArgs false
set_option linter.unusedVariables false
set_option maxRecDepth 100000
variable {S : Nat → Prop} {w W W' w' : World} {g n B : Nat} {st : St}
theorem below_fr {w : World} (h : Below w.heap.size w W) {T : Nat → Prop} (fr : Fr T W W') (hT : ∀ k, T k → w.heap.size ≤ k) : Below w.heap.size w W' :=
  ⟨fr.low.os.trans h.os, fr.low.tape.trans h.tape, fr.low.output.trans h.output, Nat.le_trans h.size fr.low.size, fun k hk => (fr.same k (Nat.lt_of_lt_of_le hk h.size) (fun hs => by have := hT k hs; omega)).trans (h.block k hk)⟩
theorem code_right (n : Nat) (h : n ≤ 16384) : rightB 5 n 0 = true := by
  unfold rightB
  rw [if_neg (by omega), if_neg (by decide), if_neg (by decide), if_neg (by decide)]
  rfl
set_option maxHeartbeats 8000000 in
theorem room_any (A0 : Option Addr) (c0 : Nat) (l0 : List S71) (A1 : Option Addr) (c1 : Nat) (r1 : List Int) (w : World) (h0 : l0.length ≤ c0) (hC0 : Kd.C k71 w A0 l0.length l0) (hw : ∀ o ∈ l0, wf71 o)
    (hC1 : Kd.C (Kd.int .i64) w A1 r1.length r1) (h1 : r1.length ≤ c1) :
    Calls Try.prog 8 #[.slice A0 l0.length c0, .slice A1 r1.length c1] w fun e w' => e = .returned (.bool true) ∧ Below w.heap.size w w' := by
  obtain ⟨m, l, hHf, hl40, hfine⟩ := heap_f l0 hw
  have hG := fine_gl l hl40 hfine
  obtain ⟨xs, hxf, hx50, hxu⟩ := words_f l hl40 hfine r1
  have hadr := adr_le l hfine
  obtain ⟨N, hN⟩ : ∃ N : Int, 64 + (adr l l.length : Int) = N := ⟨_, rfl⟩
  rw [hN] at hHf hG
  have hH := Pa.kindlingref04_Heap.calls m A0 c0 l0 l N w hC0 h0 hHf
  have hNN := Aside0.mk hN
  clear hN
  go_enter Try.func8, Try.ntmps8
  go_wp2_with (first
    | (go_at_call 14; (with_reducible refine Calls.mono hH ?_); clear hH; rintro e w2 ⟨v2, rfl, hS2, hb2⟩
       obtain ⟨A, c, rfl, hc, hC⟩ := Kd.S_reads hS2
       have hMd := made_any (w := w2) (wvOf l) A c l N hC hc hG
       clear hS2)
    | (go_at_call 15; (with_reducible refine hMd.mono ?_); clear hMd; rintro e w5 ⟨g, rfl, M5⟩
       have hB5 := M5.1
       have P5 := M5.2.bound
       clear M5
       have hb5 := below_step hb2 hB5
       have hWa := Pa.kindlinglaw04_words.calls 200 A c l A1 c1 r1 xs w5 (Kd.C_below hC hB5) hc (Kd.C_below hC1 hb5) h1 hxf)
    | (go_at_call 17; (with_reducible refine hWa.mono ?_); clear hWa; rintro e w6 ⟨va, rfl, hRa, hb6⟩
       obtain ⟨Aa, ca, rfl⟩ := Kd.R_slice hRa
       have hCa := (Kd.R_reads' hRa).2.2
       have hbase := Kd.R_base hRa
       have hrlt := Kd.R_lt hRa
       have P6 := P5.below hb6
       have hb26 := below_step hb5 hb6
       have hs6 := hb6.size
       have hs2 := hb2.size
       clear hRa))
  have hfl0 : (flat (full (wvOf l) l)).length = adr l l.length := flat_adr (sto_lens _ _ _ _)
  obtain ⟨st, hst⟩ : ∃ st : St, (⟨N, 0, full (wvOf l) l, [], .map []⟩ : St) = st := ⟨_, rfl⟩
  have hstz : st.size = N ∧ st.half = 0 ∧ (flat st.os).length = adr l l.length := by rw [← hst]; exact ⟨rfl, rfl, hfl0⟩
  rw [hst] at P6
  clear hst hG hxf hHf hfine hC0 hC1 hw P5 hC hfl0 hb5 hB5 hb6
  cases hb : walkP st.f st.os xs with
  | mk L ok =>
  cases ok with
  | false =>
    have hCo := collect_no P6 Aa ca xs hCa hxu (by omega) (by rw [hb])
    go_wp2_with (first
      | (go_at_call 19; (with_reducible refine hCo.mono ?_); clear hCo; rintro e w7 ⟨rfl, hb7⟩)
      | (go_at_call 24; (with_reducible refine (known_any _).mono ?_); rintro e w8 ⟨rfl, hb8⟩))
    go_ret
    exact ⟨rfl, below_step (below_step hb26 hb7) hb8⟩
  | true =>
    have hOL : Ord st.f st.os L := by have := Ord.walkP st.f st.os xs; rw [hb] at this; exact this
    have hof := ord_fit hOL
    rw [hstz.2.2] at hof
    have hCo := collect_any P6 (fun k h => by omega) Aa ca xs hCa hxu (by omega) (fun ad h => by
      subst h
      have h1 := hbase ad.block (by simp [Value.ownBlock])
      have h2 := hrlt ad.block (by simp [Value.ownBlock])
      exact ⟨fun h3 => by have := h3.2; omega, h2⟩) hb
    obtain ⟨fL, hfL⟩ : ∃ fL, (flat (L.map (obAt st.f st.os))).length = fL := ⟨_, rfl⟩
    have hNo := hNN.out
    obtain ⟨Fm, hFm⟩ : ∃ Fm : Nat, N - (fL : Int) = (Fm : Int) + 1 := ⟨(N - (fL : Int) - 1).toNat, by omega⟩
    have hf1 : st.f2 = 1 + N := by unfold St.f2; rw [hstz.1, hstz.2.1]; omega
    have hA1 : ∀ (S : Nat → Prop) (W : World) (D : DataW Unit), IsMem S W g (cst st (col st.f2 st.f st.os L) D) →
        (Calls Try.prog 32 #[.pointer (some ⟨g, 0, none⟩)] W fun e w' => e = .returned (.int .i64 ((Fm : Int) + 1)) ∧ Drawn0 W w') ∧
        (Calls Try.prog 36 #[.pointer (some ⟨g, 0, none⟩), .int .i64 5, .int .i64 ((Fm : Int) + 1), .int .i64 0] W fun e w' => e = .returned (.tuple #[.int .i64 0, .int .i64 21]) ∧ Drawn0 W w') ∧
        (Calls Try.prog 36 #[.pointer (some ⟨g, 0, none⟩), .int .i64 5, .int .i64 (Fm : Int), .int .i64 0] W fun e w' => e = .returned (.tuple #[.int .i64 (1 + N + (fL : Int)), .int .i64 0]) ∧ IsMem (fun k => S k ∨ W.heap.size ≤ k) w' g (cst st (col st.f2 st.f st.os L ++ [newO 5 Fm 0]) D) ∧ Fr S W w') := by
      intro S W D M
      have hcf : (flat (cst st (col st.f2 st.f st.os L) D).os).length = fL := (col_flat _ _ _ _).trans hfL
      have hcs : (cst st (col st.f2 st.f st.os L) D).size = N := hstz.1
      have h1 := M.free
      have h2 := M.alloc_full 5 ((Fm : Int) + 1) 0 (code_right (Fm + 1) (by omega)) (by rw [hcf, hcs]; omega)
      have h3 := M.alloc 5 Fm 0 (code_right Fm (by omega)) (by rw [hcf, hcs]; omega)
      rw [hcf, hcs, hFm] at h1
      rw [show (cst st (col st.f2 st.f st.os L) D).f + ((flat (cst st (col st.f2 st.f st.os L) D).os).length : Int) = 1 + N + (fL : Int) by rw [hcf, cst_f, hf1]] at h3
      exact ⟨h1, h2, h3⟩
    have hLv : ∀ (S : Nat → Prop) (W : World) (D : DataW Unit) (B : Option Addr) (d : Nat), IsMem S W g (cst st (col st.f2 st.f st.os L ++ [newO 5 Fm 0]) D) → Kd.C (Kd.int .u64) W B xs.length (xs.map (cw st.f2 st.f st.os L)) → (∀ x ∈ xs.map (cw st.f2 st.f st.os L), 0 ≤ x ∧ x < 18446744073709551616) →
        (Calls Try.prog 28 #[.pointer (some ⟨g, 0, none⟩), .slice B xs.length d] W fun e w' => e = .returned (.tuple #[.int .i64 (fL : Int), .int .i64 0]) ∧ Below W.heap.size W w') := by
      intro S W D B d M hC hu
      have h := live_any M B d (xs.map (cw st.f2 st.f st.os L)) (by rw [List.length_map]; exact hC) hu (by rw [List.length_map]; omega) (walk_iso (f1 := st.f2) (ex := [newO 5 Fm 0]) hb)
      rw [List.length_map] at h
      have hi := iso_flat (f1 := st.f2) (ex := [newO 5 Fm 0]) hOL
      rw [hfL] at hi
      rw [show (flat ((L.map (na st.f2 st.f st.os L)).map (obAt (cst st (col st.f2 st.f st.os L ++ [newO 5 Fm 0]) D).f (cst st (col st.f2 st.f st.os L ++ [newO 5 Fm 0]) D).os))).length = fL from hi] at h
      exact h
    have hFz : ∀ (S : Nat → Prop) (W : World) (D : DataW Unit), IsMem S W g (cst st (col st.f2 st.f st.os L ++ [newO 5 Fm 0]) D) → (Calls Try.prog 32 #[.pointer (some ⟨g, 0, none⟩)] W fun e w' => e = .returned (.int .i64 0) ∧ Drawn0 W w') := by
      intro S W D M
      have h := M.free
      have hcf : (flat (cst st (col st.f2 st.f st.os L ++ [newO 5 Fm 0]) D).os).length = fL + Fm + 1 := by
        show (flat (col st.f2 st.f st.os L ++ [newO 5 Fm 0])).length = _
        rw [flat_append, List.length_append, col_flat, hfL, flat_one, row_length, newO_len 5 Fm 0 (Nat.zero_le _)]
        omega
      rw [hcf, show (cst st (col st.f2 st.f st.os L ++ [newO 5 Fm 0]) D).size = N from hstz.1, show N - ((fL + Fm + 1 : Nat) : Int) = 0 by omega] at h
      exact h
    have hcu : ∀ x ∈ xs.map (cw st.f2 st.f st.os L), 0 ≤ x ∧ x < 18446744073709551616 := by
      intro x hx
      obtain ⟨y, hy, rfl⟩ := List.mem_map.1 hx
      have hyu := hxu y hy
      unfold cw
      split
      · exact hyu
      · have h6 : pos (L.map (obAt st.f st.os)) (L.idxOf (y / 2)) ≤ (flat (L.map (obAt st.f st.os))).length := pos_mono _ _ (by rw [List.length_map]; exact List.idxOf_le_length)
        rw [hf1]
        omega
    obtain ⟨T1, hT1⟩ : ∃ T1 : Nat, 1 + N = (T1 : Int) := ⟨(1 + N).toNat, by omega⟩
    obtain ⟨T2, hT2⟩ : ∃ T2 : Nat, (T1 : Int) + (fL : Int) = (T2 : Int) := ⟨T1 + fL, by omega⟩
    rw [hT1, hT2] at hA1
    have hTl : (T2 : Int) ≤ 100000 := by omega
    have hTl1 : (T1 : Int) ≤ 100000 := by omega
    have hFl : (Fm : Int) + 1 ≤ 100000 := by omega
    have hFs : (Fm : Int) + 1 - 1 = (Fm : Int) := by omega
    clear hNo hFm hf1 hof hadr hstz hxu hCa hbase hrlt hb hOL hfL
    go_wp2_with (first
      | (go_at_call 19; (with_reducible refine hCo.mono ?_); clear hCo; unfold Collected; rintro e w15 ⟨S15, B15, d15, D15, rfl, M15, hu15, hl15, hn15, ho15, hf15⟩
         have hC15 := (Kd.R_reads' ho15).2.2
         rw [List.length_map] at hC15
         have hn15' : ∀ ad, B15 = some ad → ¬ S15 ad.block := fun ad h => hn15 ad.block (by rw [h]; rfl)
         have hAA := hA1 S15 w15 D15 M15
         clear ho15 hn15)
      | (go_at_call 32; (with_reducible refine hAA.1.mono ?_); rintro e w16 ⟨rfl, hd16⟩
         have M16 := M15.drawn hd16
         have hAB := hA1 S15 w16 D15 M16)
      | (go_at_call 36; (with_reducible refine hAB.2.1.mono ?_); rintro e w17 ⟨rfl, hd17⟩
         have M17 := M16.drawn hd17
         have hAC := hA1 S15 w17 D15 M17)
      | (go_at_call 36; (with_reducible refine hAC.2.2.mono ?_); rintro e w18 ⟨rfl, M18, hf18⟩
         have hC18 := C_fr (C_fr (C_fr hC15 (Fr.of_drawn (S := S15) hd16) hn15') (Fr.of_drawn (S := S15) hd17) hn15') hf18 hn15'
         have hLL := hLv _ w18 D15 B15 d15 M18 hC18 hcu)
      | (go_at_call 28; (with_reducible refine hLL.mono ?_); rintro e w19 ⟨rfl, hb19⟩
         have M19 := M18.below hb19
         have hZZ := hFz _ w19 D15 M19)
      | (go_at_call 32; (with_reducible refine hZZ.mono ?_); rintro e w20 ⟨rfl, hd20⟩)
      | (go_at_call 24; (with_reducible refine (known_any _).mono ?_); rintro e w21 ⟨rfl, hb21⟩))
    go_ret
    have hS0 : ∀ k, S15 k → w.heap.size ≤ k := fun k h => by
      have h6 := hb26.size
      rcases hu15 k h with h | h
      · have := h.1; omega
      · omega
    have hB15 : Below w.heap.size w w15 := below_fr hb26 hf15 (fun k h => by have := h.1; omega)
    have hB18 := below_fr (below_step (below_step hB15 hd16.below) hd17.below) hf18 hS0
    exact ⟨rfl, below_step (below_step (below_step hB18 hb19) hd20.below) hb21⟩
theorem room_walk (a0 : Option Addr) (c0 : Nat) (l0 : List S71) (a1 : Option Addr) (len1 cap1 : Nat) (z1 : List Int) (w : World) (h0 : l0.length ≤ c0) (hC0 : Kd.C k71 w a0 l0.length l0) (hw : ∀ o ∈ l0, wf71 o)
    (w1 : (a1 = none ∧ len1 = 0 ∧ cap1 = 0 ∧ z1 = []) ∨ ∃ x, a1 = some x ∧ len1 ≤ cap1 ∧ cap1 ≤ maxLen ∧ z1.length = cap1 ∧ (∀ i, i < z1.length → w.cell? (x.add i) = some (.int .i64 (z1.getD i 0))) ∧ ∀ n ∈ z1, (Lit.int .i64 n).wf = true) (y1 : len1 * 8 ≤ 140737488351232) :
    Calls Try.prog 8 #[.slice a0 l0.length c0, .slice a1 len1 cap1] w fun e w' => e = .returned (.bool true) ∧ Below w.heap.size w w' := by
  obtain ⟨l1, rfl, hr1, hm1, hw1, hc1⟩ := ReadsInt.ofRowC w1
  exact room_any a0 c0 l0 a1 cap1 l1 w h0 hC0 hw (Kd.C_of_reads (d := (0 : Int)) (h1 := fun _ => rfl) hr1) hc1
end Go.Proofs.Ytjccaojlldkmpaa.Mem

