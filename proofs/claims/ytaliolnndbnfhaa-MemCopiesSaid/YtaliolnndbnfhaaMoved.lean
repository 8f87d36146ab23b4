/- Which objects have moved, and where to. -/
import Derived.Test.YtaliolnndbnfhaaMove
namespace Go.Proofs.Ytaliolnndbnfhaa.Mem
open Go.RowKit Go.Proofs.YtaliolnndbnfhaaW.PrintWords Go.Proofs.YtaliolnndbnfhaaW.PrintLast Go.Proofs.YtaliolnndbnfhaaW.PrintMore
open Hf (rightB hdr headOf partsOf w64_of)
set_option linter.unusedSimpArgs false
set_option linter.unusedVariables false
/-- The words of some objects. -/
def tot (ns : List Nat) (l : List Nat) : Nat := (l.map (fun i => ns.getD i 0 + 1)).sum
theorem tot_append (ns a b : List Nat) : tot ns (a ++ b) = tot ns a + tot ns b := by simp [tot]
theorem tot_erase (ns : List Nat) (a : Nat) : ∀ l : List Nat, a ∈ l → tot ns l = (ns.getD a 0 + 1) + tot ns (l.erase a)
  | [], h => by cases h
  | b :: l, h => by
    by_cases e : b = a
    · subst e
      rw [List.erase_cons_head]
      simp [tot]
    · have hm : a ∈ l := by
        rcases List.mem_cons.1 h with h | h
        · exact absurd h.symm e
        · exact h
      rw [List.erase_cons_tail (by simpa using e)]
      have := tot_erase ns a l hm
      simp only [tot, List.map_cons, List.sum_cons] at this ⊢
      omega
theorem tot_le (ns : List Nat) (n : Nat) : ∀ l : List Nat, l.Nodup → (∀ i ∈ l, i < n) → tot ns l ≤ tot ns (List.range n) := by
  induction n with
  | zero =>
    intro l _ h
    cases l with
    | nil => exact Nat.le_refl _
    | cons a l => exact absurd (h a (by simp)) (Nat.not_lt_zero a)
  | succ n ih =>
    intro l hn h
    rw [List.range_succ, tot_append]
    have h1 : tot ns [n] = ns.getD n 0 + 1 := by simp [tot]
    by_cases hm : n ∈ l
    · have h2 := ih (l.erase n) (hn.erase n) (fun i hi => by
        have := (List.Nodup.mem_erase_iff hn).1 hi
        have := h i this.2
        omega)
      rw [tot_erase ns n l hm]
      omega
    · have h2 := ih l hn (fun i hi => by
        have h3 := h i hi
        have : i ≠ n := fun e => hm (e ▸ hi)
        omega)
      omega
/-- The objects that went, in the order in which they went. -/
def mvo (ns mvI : List Nat) : List O := mvI.map (fun i => fillO i (ns.getD i 0))
theorem mvo_length (ns mvI : List Nat) : (mvo ns mvI).length = mvI.length := by simp [mvo]
theorem mvo_flat (ns mvI : List Nat) : (flat (mvo ns mvI)).length = tot ns mvI := by
  rw [flat_len]
  unfold mvo tot
  rw [List.map_map, List.map_map]
  congr 1
  apply List.map_congr_left
  intro i _
  simp only [Function.comp_def, fillO_len]
theorem mvo_snoc (ns mvI : List Nat) (i : Nat) : mvo ns (mvI ++ [i]) = mvo ns mvI ++ [fillO i (ns.getD i 0)] := by simp [mvo]
theorem fill_tot (ns : List Nat) : (flat (fillOs ns)).length = tot ns (List.range ns.length) := by
  rw [flat_len]
  unfold tot
  congr 1
  apply List.ext_getElem
  · simp [fillOs]
  · intro i h1 h2
    have h3 : i < ns.length := by simpa using h2
    simp only [List.getElem_map, List.getElem_range]
    rw [fill_len ns i (by rw [fillOs_length]; exact h3) h3]
    simp [List.getD, h3]
theorem fill_getD (ns : List Nat) (i : Nat) (h : i < ns.length) : ns.getD i 0 = ns[i] := by simp [List.getD, h]
def stM (W : Nat) (ns mvI : List Nat) (D : DataW Unit) : St := ⟨(W : Int), 1, mvo ns mvI, fillOs ns, D⟩
theorem stM_f (W : Nat) (ns mvI : List Nat) (D : DataW Unit) : (stM W ns mvI D).f = 1 + (W : Int) := by simp [St.f, stM]
theorem stM_f2 (W : Nat) (ns mvI : List Nat) (D : DataW Unit) : (stM W ns mvI D).f2 = 1 := by simp [St.f2, stM]
theorem flip_stF (W : Nat) (ns : List Nat) : (stF W ns).flip = stM W ns [] (.map []) := by
  unfold St.flip stF stM
  simp [mvo]
def keyAt (ns : List Nat) (i : Nat) : Lit := .int .i64 (1 + (pos (fillOs ns) i : Int))
theorem key_inj (ns : List Nat) (i j : Nat) (hi : i < ns.length) (hj : j < ns.length) (h : keyAt ns i = keyAt ns j) : i = j := by
  unfold keyAt at h
  injection h with _ h
  exact pos_inj (by rw [fillOs_length]; exact hi) (by rw [fillOs_length]; exact hj) (by omega)
/-- Behind the change: these have moved; the map tells where to. -/
structure MvD (w0 w : World) (g W : Nat) (ns mvI : List Nat) (va vs : Value) (D : DataW Unit) : Prop where
  F : Fil w0 w g (stM W ns mvI D) va vs (heads 1 (fillOs ns)) (ints ns)
  nod : mvI.Nodup
  lt : ∀ i ∈ mvI, i < ns.length
  isMap : Maps.IsMap D
  yes : ∀ (p : Nat) (h : p < mvI.length), Maps.has D (keyAt ns mvI[p]) = true ∧ ∀ z, D.atKey (keyAt ns mvI[p]) z = .lit (.int .i64 (1 + (W : Int) + (pos (mvo ns mvI) p : Int)))
  no : ∀ i, i < ns.length → i ∉ mvI → Maps.has D (keyAt ns i) = false
def Mv (w0 w : World) (g W : Nat) (ns mvI : List Nat) (va vs : Value) : Prop := ∃ D, MvD w0 w g W ns mvI va vs D
variable {w0 w w' : World} {g W : Nat} {ns mvI : List Nat} {va vs : Value}
theorem Mv.fil (M : Mv w0 w g W ns mvI va vs) : ∃ D, Fil w0 w g (stM W ns mvI D) va vs (heads 1 (fillOs ns)) (ints ns) := by obtain ⟨D, M⟩ := M; exact ⟨D, M.F⟩
theorem Mv.drawn (M : Mv w0 w g W ns mvI va vs) (hd : Drawn0 w w') : Mv w0 w' g W ns mvI va vs := by
  obtain ⟨D, M⟩ := M
  exact ⟨D, M.F.drawn hd, M.nod, M.lt, M.isMap, M.yes, M.no⟩
theorem Mv.start (F : Fil w0 w g (stM W ns [] (.map [])) va vs (heads 1 (fillOs ns)) (ints ns)) : Mv w0 w g W ns [] va vs :=
  ⟨_, F, by simp, (fun i hi => by cases hi), Maps.isMap_empty, (fun p h => absurd h (Nat.not_lt_zero p)), fun i _ _ => rfl⟩
theorem key_lit (ns : List Nat) (i : Nat) : WideAt.IsKeyLit (keyAt ns i) := by
  unfold keyAt
  first
  | exact trivial
  | exact .inl ⟨_, _, rfl⟩
  | simp [WideAt.IsKeyLit]
theorem pos_app (a b : List O) (p : Nat) (h : p ≤ a.length) : pos (a ++ b) p = pos a p := by
  unfold pos
  rw [List.take_append_of_le_length h]
/-- One call of Move. -/
theorem Mv.move (M : Mv w0 w g W ns mvI va vs) (G : Goods W ns) (i : Nat) (hi : i < ns.length) :
    Calls Try.prog 32 #[.pointer (some ⟨g, 0, none⟩), .int .i64 (1 + (pos (fillOs ns) i : Int))] w fun e w' => ∃ (p : Nat) (l : List Nat), e = .returned (.tuple #[.int .i64 (1 + (W : Int) + (pos (mvo ns l) p : Int)), .int .i64 0]) ∧ Mv w0 w' g W ns l va vs ∧
      (∃ h : p < l.length, l[p] = i) ∧ ((i ∈ mvI ∧ l = mvI) ∨ (i ∉ mvI ∧ l = mvI ++ [i] ∧ p = mvI.length)) := by
  obtain ⟨D, M⟩ := M
  have hlo : i < (stM W ns mvI D).olds.length := by show i < (fillOs ns).length; rw [fillOs_length]; exact hi
  have hf2 := stM_f2 W ns mvI D
  have hf := stM_f W ns mvI D
  have hkey : (Lit.int .i64 ((stM W ns mvI D).f2 + (pos (stM W ns mvI D).olds i : Int))) = keyAt ns i := by rw [hf2]; rfl
  by_cases hm : i ∈ mvI
  · obtain ⟨p, hp, rfl⟩ := List.mem_iff_getElem.1 hm
    obtain ⟨S, F⟩ := M.F
    have hy := M.yes p hp
    have := F.mem.move_old mvI[p] hlo (1 + (W : Int) + (pos (mvo ns mvI) p : Int)) (by rw [hkey]; exact hy.1) (by rw [hkey]; exact hy.2 _)
    rw [hf2] at this
    refine this.mono ?_
    rintro e w' ⟨h1, h2⟩
    exact ⟨p, mvI, h1, Mv.drawn ⟨D, M⟩ h2, ⟨hp, rfl⟩, .inl ⟨hm, rfl⟩⟩
  · obtain ⟨S, F⟩ := M.F
    have hnod : (mvI ++ [i]).Nodup := by
      rw [List.nodup_append]
      refine ⟨M.nod, by simp, ?_⟩
      intro x hx y hy e
      simp at hy
      subst e hy
      exact hm hx
    have hlt : ∀ j ∈ mvI ++ [i], j < ns.length := fun j hj => by
      rw [List.mem_append, List.mem_singleton] at hj
      rcases hj with hj | rfl
      · exact M.lt j hj
      · exact hi
    have htot := tot_le ns ns.length _ hnod hlt
    rw [tot_append, ← fill_tot, show tot ns [i] = ns.getD i 0 + 1 by simp [tot], fill_getD ns i hi] at htot
    have hfit := G.fit
    have hfl : (flat (stM W ns mvI D).os).length = tot ns mvI := mvo_flat ns mvI
    have hlen : (stM W ns mvI D).olds[i].fs.length = ns[i] := fill_len ns i hlo hi
    have hget : (stM W ns mvI D).olds[i] = fillO i (ns.getD i 0) := by
      show (fillOs ns)[i] = _
      rw [fillOs_get ns i hlo hi, fill_getD ns i hi]
    have := F.mem.move i hlo (by rw [hkey]; exact M.no i hi hm) (by rw [hlen, hfl]; show (tot ns mvI : Int) + ns[i] + 1 ≤ (W : Int); omega)
    rw [hkey, hf2, hf, hget] at this
    refine this.mono ?_
    rintro e w' ⟨h1, h2, h3⟩
    have F' := Fil.turn F h2 h3
    have hst : ({ stM W ns mvI D with os := (stM W ns mvI D).os ++ [fillO i (ns.getD i 0)], mvd := (stM W ns mvI D).mvd.put (keyAt ns i) (.lit (.int .i64 (1 + (W : Int) + ((flat (stM W ns mvI D).os).length : Int)))) } : St)
        = stM W ns (mvI ++ [i]) (D.put (keyAt ns i) (.lit (.int .i64 (1 + (W : Int) + ((flat (mvo ns mvI)).length : Int))))) := by
      unfold stM
      simp only [mvo_snoc]
    rw [hst] at F'
    have hpl : pos (mvo ns (mvI ++ [i])) mvI.length = (flat (mvo ns mvI)).length := by
      rw [mvo_snoc, ← mvo_length ns mvI, pos_last]
    refine ⟨mvI.length, mvI ++ [i], by rw [hpl]; exact h1, ⟨_, F', hnod, hlt, ?_, ?_, ?_⟩, ⟨by simp, by simp⟩, .inr ⟨hm, rfl, rfl⟩⟩
    · obtain ⟨es, rfl⟩ := M.isMap
      exact ⟨_, rfl⟩
    · intro p hp
      by_cases e : p = mvI.length
      · subst e
        have : (mvI ++ [i])[mvI.length] = i := by simp
        rw [this, hpl]
        exact ⟨Maps.has_put_same M.isMap (key_lit ns i) _, fun z => Maps.atKey_put_same M.isMap (key_lit ns i) _ z⟩
      · have hp' : p < mvI.length := by simp at hp; omega
        have hg : (mvI ++ [i])[p] = mvI[p] := List.getElem_append_left hp'
        have hne : keyAt ns mvI[p] ≠ keyAt ns i := fun h => hm (key_inj ns _ _ (M.lt _ (List.getElem_mem hp')) hi h ▸ List.getElem_mem hp')
        have hy := M.yes p hp'
        rw [hg, mvo_snoc, pos_app _ _ _ (by rw [mvo_length]; omega)]
        exact ⟨(Maps.has_put_other hne _).trans hy.1, fun z => (Maps.atKey_put_other hne _ z).trans (hy.2 z)⟩
    · intro j hj hnm
      rw [List.mem_append, List.mem_singleton] at hnm
      have hne : keyAt ns j ≠ keyAt ns i := fun h => hnm (.inr (key_inj ns _ _ hj hi h))
      exact (Maps.has_put_other hne _).trans (M.no j hj (fun h => hnm (.inl h)))
end Go.Proofs.Ytaliolnndbnfhaa.Mem
