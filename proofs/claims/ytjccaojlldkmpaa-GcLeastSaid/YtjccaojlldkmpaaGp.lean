/- A collection, plain: the order, step by step; the objects on their way. -/
import Derived.Test.YtjccaojlldkmpaaGm
namespace Go.Proofs.Ytjccaojlldkmpaa.Mem
open Go.RowKit
open Hf (rightB hdr headOf partsOf)
set_option linter.unusedSimpArgs false
set_option linter.unusedVariables false
/-- The order behind k objects. -/
def it (f : Int) (os : List O) (l0 : List Int) : Nat → List Int
  | 0 => l0
  | k + 1 => (addP f os (it f os l0 k) (tg f os ((it f os l0 k).getD k 0))).1
variable {f : Int} {os : List O} {l0 : List Int}
theorem it_succ (k : Nat) : it f os l0 (k + 1) = (addP f os (it f os l0 k) (tg f os ((it f os l0 k).getD k 0))).1 := rfl
theorem it_ord (h : Ord f os l0) : ∀ k, Ord f os (it f os l0 k)
  | 0 => h
  | k + 1 => ((it_ord h k).addP _).1
theorem it_step (h : Ord f os l0) (k : Nat) : it f os l0 k <+: it f os l0 (k + 1) := ((it_ord h k).addP _).2
theorem it_pre (h : Ord f os l0) (k d : Nat) : it f os l0 k <+: it f os l0 (k + d) := by
  induction d with
  | zero => exact List.prefix_refl _
  | succ d ih => exact ih.trans (it_step h (k + d))
theorem it_run (h : Ord f os l0) {L : List Int} (n : Nat) : ∀ i, goP f os n i (it f os l0 i) = (L, true) → i ≤ (it f os l0 i).length → n + i = os.length + 1 →
    i ≤ L.length ∧ (∀ k, i ≤ k → k < L.length → k < (it f os l0 k).length ∧ (addP f os (it f os l0 k) (tg f os ((it f os l0 k).getD k 0))).2 = true) ∧ it f os l0 L.length = L := by
  induction n with
  | zero =>
    intro i _ h2 h3
    have := (it_ord h i).len
    omega
  | succ n ih =>
    intro i h1 h2 h3
    by_cases hi : i < (it f os l0 i).length
    · have e : (it f os l0 i)[i] = (it f os l0 i).getD i 0 := by simp [List.getD, hi]
      rw [goP, List.getElem?_eq_getElem hi] at h1
      simp only [e] at h1
      by_cases h4 : (addP f os (it f os l0 i) (tg f os ((it f os l0 i).getD i 0))).2 = true
      · rw [if_pos h4] at h1
        have hl := (it_step h i).length_le
        obtain ⟨p1, p2, p3⟩ := ih (i + 1) h1 (by omega) (by omega)
        refine ⟨by omega, fun k hk hkL => ?_, p3⟩
        by_cases hki : k = i
        · subst hki; exact ⟨hi, h4⟩
        · exact p2 k (by omega) hkL
      · rw [if_neg h4] at h1
        rw [h1] at h4
        exact absurd rfl h4
    · rw [goP, List.getElem?_eq_none (by omega)] at h1
      have e : it f os l0 i = L := congrArg Prod.fst h1
      have hiL : i = L.length := by rw [← e]; omega
      refine ⟨by omega, fun k hk hkL => by omega, by rw [← hiL]; exact e⟩
/-- All of a walk that went well. -/
theorem walk_run {xs L : List Int} (h : walkP f os xs = (L, true)) : (addP f os [] xs).2 = true ∧ Ord f os (addP f os [] xs).1 ∧
    (∀ k, k < L.length → k < (it f os (addP f os [] xs).1 k).length ∧ (addP f os (it f os (addP f os [] xs).1 k) (tg f os ((it f os (addP f os [] xs).1 k).getD k 0))).2 = true) ∧ it f os (addP f os [] xs).1 L.length = L := by
  have ho := ((Ord.nil f os).addP xs).1
  unfold walkP at h
  by_cases h2 : (addP f os [] xs).2 = true
  · rw [if_pos h2] at h
    obtain ⟨p1, p2, p3⟩ := it_run ho (os.length + 1) 0 h (Nat.zero_le _) (by omega)
    exact ⟨h2, ho, fun k hk => p2 k (Nat.zero_le _) hk, p3⟩
  · rw [if_neg h2] at h
    rw [h] at h2
    exact absurd rfl h2
/-- The object at an address. -/
def obAt (f : Int) (os : List O) (a : Int) : O := os.getD ((heads f os).idxOf a) ⟨0, 0, []⟩
theorem obAt_at (f : Int) (os : List O) (i : Nat) (h : i < os.length) : obAt f os (f + (pos os i : Int)) = os[i] := by
  unfold obAt
  rw [heads_idx f os i h]
  simp [List.getD, h]
theorem tg_obAt (f : Int) (os : List O) (a : Int) (h : a ∈ heads f os) : tg f os a = (obAt f os a).fs.take (obAt f os a).tag.toNat := by
  obtain ⟨i, hi, rfl⟩ := mem_heads.1 h
  rw [tg_at f os i hi, obAt_at f os i hi]
/-- A word behind the collection. -/
def cw (f1 f : Int) (os : List O) (L : List Int) (x : Int) : Int := if x % 2 = 1 then x else 2 * (f1 + (pos (L.map (obAt f os)) (L.idxOf (x / 2)) : Int))
/-- An object whose first q fields are turned. -/
def mapO (c : Int → Int) (q : Nat) (o : O) : O := ⟨o.kind, o.tag, (o.fs.take q).map c ++ o.fs.drop q⟩
theorem mapO_len (c : Int → Int) (q : Nat) (o : O) : (mapO c q o).fs.length = o.fs.length := by
  simp only [mapO, List.length_append, List.length_map, List.length_take, List.length_drop]
  omega
theorem mapO_zero (c : Int → Int) (o : O) : mapO c 0 o = o := by
  cases o
  simp [mapO]
/-- The objects on their way: those ahead of k are turned, of the k-th j fields. -/
def stg (c : Int → Int) (f : Int) (os : List O) (l : List Int) (k j : Nat) : List O := l.mapIdx fun p a => mapO c (if p < k then (obAt f os a).tag.toNat else if p = k then j else 0) (obAt f os a)
theorem stg_length (c : Int → Int) (f : Int) (os : List O) (l : List Int) (k j : Nat) : (stg c f os l k j).length = l.length := by simp [stg]
theorem stg_get (c : Int → Int) (f : Int) (os : List O) (l : List Int) (k j p : Nat) (h : p < (stg c f os l k j).length) (h' : p < l.length) :
    (stg c f os l k j)[p] = mapO c (if p < k then (obAt f os l[p]).tag.toNat else if p = k then j else 0) (obAt f os l[p]) := by simp [stg]
theorem stg_lens (c : Int → Int) (f : Int) (os : List O) (l : List Int) (k j : Nat) : (stg c f os l k j).map (fun o => o.fs.length) = (l.map (obAt f os)).map (fun o => o.fs.length) := by
  apply List.ext_getElem
  · simp [stg]
  · intro p h1 h2
    simp only [List.getElem_map]
    rw [stg_get c f os l k j p (by simpa using h1) (by simpa using h2), mapO_len]
theorem stg_pos (c : Int → Int) (f : Int) (os : List O) (l : List Int) (k j p : Nat) : pos (stg c f os l k j) p = pos (l.map (obAt f os)) p := pos_lens (stg_lens c f os l k j) p
theorem stg_flat (c : Int → Int) (f : Int) (os : List O) (l : List Int) (k j : Nat) : (flat (stg c f os l k j)).length = (flat (l.map (obAt f os))).length := by
  rw [flat_len, flat_len, stg_lens]
theorem pos_map_pre {l L : List Int} (g : Int → O) (h : l <+: L) (p : Nat) (hp : p ≤ l.length) : pos (L.map g) p = pos (l.map g) p := by
  obtain ⟨t, rfl⟩ := h
  unfold pos
  rw [List.map_append, List.take_append_of_le_length (by simpa using hp)]
theorem stg_snoc (c : Int → Int) (f : Int) (os : List O) (l : List Int) (k j : Nat) (a : Int) (h : k < l.length ∨ j = 0 ∧ k ≤ l.length) : stg c f os (l ++ [a]) k j = stg c f os l k j ++ [obAt f os a] := by
  unfold stg
  rw [List.mapIdx_append]
  simp only [List.mapIdx_cons, List.mapIdx_nil, Nat.zero_add]
  congr 1
  rw [if_neg (by omega)]
  by_cases e : l.length = k
  · rw [if_pos e]
    have : j = 0 := by omega
    rw [this, mapO_zero]
  · rw [if_neg e, mapO_zero]
theorem mapO_put (c : Int → Int) (j : Nat) (o : O) (hj : j < o.fs.length) : (mapO c j o).put j (c (o.fs.getD j 0)) = mapO c (j + 1) o := by
  have e : o.fs.getD j 0 = o.fs[j] := by simp [List.getD, hj]
  unfold mapO O.put
  congr 1
  rw [e, List.set_append, if_neg (by rw [List.length_map, List.length_take]; omega), List.drop_eq_getElem_cons hj, show j - (List.map c (List.take j o.fs)).length = 0 by simp; omega, List.set_cons_zero, List.take_succ_eq_append_getElem hj, List.map_append, List.append_assoc]
  rfl
theorem mapO_rest (c : Int → Int) (j : Nat) (o : O) (hj : j < o.fs.length) : (mapO c j o).fs.getD j 0 = o.fs.getD j 0 := by
  simp only [mapO, List.getD]
  rw [List.getElem?_append_right (by rw [List.length_map, List.length_take]; omega), List.getElem?_drop]
  congr 2
  simp
  omega
/-- One field more. -/
theorem stg_put (c : Int → Int) (f : Int) (os : List O) (l : List Int) (k j : Nat) (hk : k < l.length) (hj : j < (obAt f os l[k]).fs.length) :
    putO (stg c f os l k j) k j (c ((obAt f os l[k]).fs.getD j 0)) = stg c f os l k (j + 1) := by
  apply List.ext_getElem
  · rw [putO_length, stg_length, stg_length]
  · intro p h1 h2
    have hp : p < (stg c f os l k j).length := by rw [putO_length] at h1; exact h1
    have hpl : p < l.length := by rw [stg_length] at hp; exact hp
    rw [putO_get _ _ _ _ _ h1 hp, stg_get c f os l k (j + 1) p h2 hpl, stg_get c f os l k j p hp hpl]
    by_cases e : k = p
    · subst e
      rw [if_pos rfl, if_neg (by omega), if_pos rfl, if_neg (by omega), if_pos rfl, mapO_put c j _ hj]
    · rw [if_neg e]
      by_cases e2 : p < k
      · rw [if_pos e2, if_pos e2]
      · rw [if_neg e2, if_neg (by omega), if_neg e2, if_neg (by omega)]
/-- An object is done. -/
theorem stg_done (c : Int → Int) (f : Int) (os : List O) (l : List Int) (k : Nat) (hk : k < l.length) : stg c f os l k (obAt f os l[k]).tag.toNat = stg c f os l (k + 1) 0 := by
  apply List.ext_getElem
  · rw [stg_length, stg_length]
  · intro p h1 h2
    have hpl : p < l.length := by rw [stg_length] at h1; exact h1
    rw [stg_get _ _ _ _ _ _ _ h1 hpl, stg_get _ _ _ _ _ _ _ h2 hpl]
    by_cases e : p = k
    · subst e
      rw [if_neg (by omega), if_pos rfl, if_pos (by omega)]
    · by_cases e2 : p < k
      · rw [if_pos e2, if_pos (by omega)]
      · rw [if_neg e2, if_neg e, if_neg (by omega)]
        by_cases e3 : p = k + 1
        · rw [if_pos e3]
        · rw [if_neg e3]
theorem addP_part (l xs : List Int) (k : Nat) (h : (addP f os l xs).2 = true) : (addP f os l (xs.take k)).2 = true := by
  cases e : (addP f os l (xs.take k)).2 with
  | true => rfl
  | false =>
    have h2 := addP_stop f os l (xs.take k) (xs.drop k) e
    rw [List.take_append_drop] at h2
    rw [h2, e] at h
    cases h
theorem addP_pre (l xs : List Int) (k : Nat) (hl : Ord f os l) (h : (addP f os l xs).2 = true) : (addP f os l (xs.take k)).1 <+: (addP f os l xs).1 := by
  have h1 := addP_part l xs k h
  have h2 := addP_append f os (xs.take k) (xs.drop k) l
  rw [List.take_append_drop, if_pos h1] at h2
  rw [h2]
  exact ((hl.addP (xs.take k)).1.addP (xs.drop k)).2
theorem addP_round (l xs : List Int) (k : Nat) (hk : k < xs.length) (h : (addP f os l xs).2 = true) : add1 f os (addP f os l (xs.take k)).1 xs[k] = some (addP f os l (xs.take (k + 1))).1 := by
  have h1 := addP_part l xs k h
  have h2 := addP_part l xs (k + 1) h
  have e : xs.take (k + 1) = xs.take k ++ [xs[k]] := List.take_succ_eq_append_getElem hk
  have h3 := addP_snoc f os l (xs.take k) xs[k] h1
  rw [← e] at h3
  rw [h3] at h2 ⊢
  cases e2 : add1 f os (addP f os l (xs.take k)).1 xs[k] with
  | some l2 => rfl
  | none => rw [e2] at h2; cases h2
theorem addP_pre2 (l xs : List Int) (k : Nat) (hl : Ord f os l) (h : (addP f os l xs).2 = true) : (addP f os l (xs.take k)).1 <+: (addP f os l (xs.take (k + 1))).1 := by
  have h1 := addP_part l xs (k + 1) h
  have h2 := addP_pre l (xs.take (k + 1)) k hl h1
  rw [List.take_take, Nat.min_eq_left (Nat.le_succ k)] at h2
  exact h2
theorem stg_ext (c : Int → Int) {l l2 : List Int} (h : l <+: l2) (k j : Nat) (hk : k < l.length) : stg c f os l k j ++ (l2.drop l.length).map (obAt f os) = stg c f os l2 k j := by
  obtain ⟨t, rfl⟩ := h
  rw [List.drop_left]
  unfold stg
  rw [List.mapIdx_append]
  congr 1
  apply List.ext_getElem
  · simp
  · intro p h1 h2
    simp only [List.getElem_map, List.getElem_mapIdx]
    rw [if_neg (by omega), if_neg (by omega), mapO_zero]
theorem stg_zero (c : Int → Int) (l : List Int) : stg c f os l 0 0 = l.map (obAt f os) := by
  apply List.ext_getElem
  · simp [stg]
  · intro p h1 h2
    have hp : p < l.length := by simpa using h2
    rw [stg_get _ _ _ _ _ _ _ h1 hp, if_neg (by omega), List.getElem_map]
    by_cases e : p = 0
    · rw [if_pos e, mapO_zero]
    · rw [if_neg e, mapO_zero]
theorem stg_full (c : Int → Int) (l : List Int) : stg c f os l l.length 0 = l.map (fun a => mapO c (obAt f os a).tag.toNat (obAt f os a)) := by
  apply List.ext_getElem
  · simp [stg]
  · intro p h1 h2
    have hp : p < l.length := by simpa using h2
    rw [stg_get _ _ _ _ _ _ _ h1 hp, if_pos hp, List.getElem_map]
theorem stg_at (c : Int → Int) (l : List Int) (k j : Nat) (hk : k < l.length) (h : k < (stg c f os l k j).length) : (stg c f os l k j)[k] = mapO c j (obAt f os l[k]) := by
  rw [stg_get _ _ _ _ _ _ _ h hk, if_neg (by omega), if_pos rfl]
end Go.Proofs.Ytjccaojlldkmpaa.Mem
