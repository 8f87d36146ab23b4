/- What ways find, ahead of a collection and behind it. -/
import Derived.Test.YtjccaojlldkmpaaFo
import Derived.Test.YtjccaojlldkmpaaMemC
namespace Go.Proofs.Ytjccaojlldkmpaa.Mem
open Go.RowKit Go.Proofs.YtjccaojlldkmpaaW.PrintWords Go.Proofs.YtjccaojlldkmpaaW.PrintLast Go.Proofs.YtjccaojlldkmpaaW.PrintMore
open Hf (rightB hdr headOf partsOf)
open Pa (S71 k71 z71 rd_T71 at_T71)
open Open4 (i64 wf71)
set_option linter.unusedSimpArgs false
set_option linter.unusedVariables false
set_option maxRecDepth 100000
section plain
variable {f f1 : Int} {os ex : List O} {L : List Int}
theorem col_at (hL : Ord f os L) {a : Int} (ha : a ∈ L) : ∃ (i : Nat) (hi : i < (col f1 f os L ++ ex).length), f1 + (pos (col f1 f os L ++ ex) i : Int) = na f1 f os L a ∧ (col f1 f os L ++ ex)[i] = mapO (cw f1 f os L) (obAt f os a).tag.toNat (obAt f os a) := by
  obtain ⟨i, hi, rfl⟩ := List.mem_iff_getElem.1 ha
  have hic : i < (col f1 f os L ++ ex).length := by rw [List.length_append, col_len]; omega
  refine ⟨i, hic, (na_pos (ex := ex) hL i hi).symm, ?_⟩
  rw [List.getElem_append_left (by rw [col_len]; exact hi)]
  simp [col]
theorem obAt_iso (hL : Ord f os L) {a : Int} (ha : a ∈ L) : obAt f1 (col f1 f os L ++ ex) (na f1 f os L a) = mapO (cw f1 f os L) (obAt f os a).tag.toNat (obAt f os a) := by
  obtain ⟨i, hi, e1, e2⟩ := col_at (f1 := f1) (ex := ex) hL ha
  rw [← e1, obAt_at _ _ i hi, e2]
theorem mapO_get (c : Int → Int) (q : Nat) (o : O) (k : Nat) (hk : k < o.fs.length) : (mapO c q o).fs.getD k 0 = if k < q then c (o.fs.getD k 0) else o.fs.getD k 0 := by
  have hl := mapO_len c q o
  simp only [List.getD]
  rw [List.getElem?_eq_getElem (by rw [hl]; exact hk), List.getElem?_eq_getElem hk]
  simp only [Option.getD_some, mapO]
  by_cases h : k < q
  · rw [if_pos h, List.getElem_append_left (by rw [List.length_map, List.length_take]; omega)]
    simp
  · rw [if_neg h, List.getElem_append_right (by rw [List.length_map, List.length_take]; omega)]
    simp only [List.length_map, List.length_take, List.getElem_drop]
    congr 1
    omega
theorem run_iso (hL : Ord f os L) (hS : Shut f os L) (hp : ∀ a ∈ L, 0 ≤ (obAt f os a).tag ∧ (obAt f os a).tag ≤ (obAt f os a).fs.length ∧ (obAt f os a).tag ≤ 1000000000) (vs : List Int) : ∀ x, Good L x → runF f1 (col f1 f os L ++ ex) (cw f1 f os L x) vs = cw f1 f os L (runF f os x vs) ∧ Good L (runF f os x vs) := by
  induction vs with
  | nil => intro x hx; exact ⟨rfl, hx⟩
  | cons v vs ih =>
    intro x hx
    by_cases ho : x % 2 = 1
    · simp only [runF]
      rw [if_pos (by rw [cw_odd ho]; exact ho), if_pos ho]
      exact ⟨rfl, hx⟩
    · have ha := hx.resolve_left ho
      have e : cw f1 f os L x / 2 = na f1 f os L (x / 2) := by rw [cw_even ho]; omega
      have e2 : ¬ cw f1 f os L x % 2 = 1 := by rw [cw_even ho]; omega
      simp only [runF]
      rw [if_neg e2, if_neg ho, e, obAt_iso hL ha]
      have hq := hp _ ha
      by_cases ht : (obAt f os (x / 2)).tag = 0
      · rw [if_pos ht, if_pos (show (mapO _ _ _).tag = 0 from ht)]
        exact ⟨rfl, hx⟩
      · rw [if_neg ht, if_neg (show ¬ (mapO _ _ _).tag = 0 from ht)]
        have hlt := (amg_f v (obAt f os (x / 2)).tag (by omega) (by omega)).2
        have hmt : (mapO (cw f1 f os L) (obAt f os (x / 2)).tag.toNat (obAt f os (x / 2))).tag = (obAt f os (x / 2)).tag := rfl
        rw [hmt, mapO_get _ _ _ _ (by omega), if_pos (by omega)]
        apply ih
        have hall := hS.all _ ha
        rw [tg_obAt _ _ _ (hS.sub _ ha)] at hall
        apply hall
        have hq2 : amg v (obAt f os (x / 2)).tag < ((obAt f os (x / 2)).fs.take (obAt f os (x / 2)).tag.toNat).length := by rw [List.length_take]; omega
        have : (obAt f os (x / 2)).fs.getD (amg v (obAt f os (x / 2)).tag) 0 = ((obAt f os (x / 2)).fs.take (obAt f os (x / 2)).tag.toNat)[amg v (obAt f os (x / 2)).tag] := by
          rw [List.getElem_take]
          simp only [List.getD]
          rw [List.getElem?_eq_getElem (by omega)]
          rfl
        rw [this]
        exact List.getElem_mem hq2
theorem folB_map (c : Int → Int) (xs way : List Int) : folB (xs.map c) way = folB xs way := by unfold folB; rw [List.length_map]
theorem fol_iso (hL : Ord f os L) (hS : Shut f os L) (hp : ∀ a ∈ L, 0 ≤ (obAt f os a).tag ∧ (obAt f os a).tag ≤ (obAt f os a).fs.length ∧ (obAt f os a).tag ≤ 1000000000) (xs way : List Int) (hx : ∀ x ∈ xs, Good L x) (hxl : xs.length ≤ 1000) (h : folB xs way = true) :
    fol f1 (col f1 f os L ++ ex) (xs.map (cw f1 f os L)) way = cw f1 f os L (fol f os xs way) ∧ Good L (fol f os xs way) := by
  have h0 : ¬(xs.length = 0 ∨ way.length = 0) := fun e => by
    unfold folB at h
    rw [if_pos e] at h
    cases h
  unfold fol
  rw [List.length_map, if_neg h0, if_neg h0]
  have hlt := (amg_f (way.getD 0 0) xs.length (by omega) (by omega)).2
  generalize amg (way.getD 0 0) xs.length = q at *
  have e : (xs.map (cw f1 f os L)).getD (q) 0 = cw f1 f os L (xs.getD (q) 0) := by
    have : q < xs.length := by omega
    simp [List.getD, this]
  rw [e]
  refine run_iso hL hS hp _ _ (hx _ ?_)
  have : q < xs.length := by omega
  simp [List.getD, this]
theorem fol_no (f : Int) (os : List O) (xs way : List Int) (h : folB xs way = false) : fol f os xs way = 0 := by
  unfold fol
  unfold folB at h
  by_cases e : xs.length = 0 ∨ way.length = 0
  · rw [if_pos e]
  · rw [if_neg e] at h
    cases h
theorem like_map (c : Int → Int) (hc : ∀ x, (x % 2 = 1 → c x = x) ∧ (¬ x % 2 = 1 → ¬ c x % 2 = 1)) (o : O) (ht : 0 ≤ o.tag) : LikeO o (mapO c o.tag.toNat o) := by
  refine ⟨rfl, (mapO_len _ _ _).symm, rfl, fun k hk h => ?_⟩
  rw [mapO_get _ _ _ _ hk] at h ⊢
  by_cases hq : k < o.tag.toNat
  · rw [if_pos hq] at h ⊢
    have hodd : o.fs.getD k 0 % 2 = 1 := by
      rcases h with h | h | h
      · omega
      · exact h
      · apply Decidable.byContradiction
        intro hn
        exact (hc _).2 hn h
    exact ((hc _).1 hodd).symm
  · rw [if_neg hq]
theorem cw_par (x : Int) : (x % 2 = 1 → cw f1 f os L x = x) ∧ (¬ x % 2 = 1 → ¬ cw f1 f os L x % 2 = 1) := ⟨cw_odd, fun h => by rw [cw_even h]; omega⟩
theorem cw_inj (hL : Ord f os L) {x y : Int} (hx : Good L x) (hy : Good L y) (e : cw f1 f os L x = cw f1 f os L y) : x = y := by
  by_cases h1 : x % 2 = 1
  · by_cases h2 : y % 2 = 1
    · rwa [cw_odd h1, cw_odd h2] at e
    · rw [cw_odd h1, cw_even h2] at e
      omega
  · by_cases h2 : y % 2 = 1
    · rw [cw_even h1, cw_odd h2] at e
      omega
    · rw [cw_even h1, cw_even h2] at e
      have := na_inj (f1 := f1) hL (hx.resolve_left h1) (hy.resolve_left h2) (by omega)
      omega
end plain
variable {S : Nat → Prop} {w W W' w' : World} {g n B : Nat} {st : St}
theorem run_u64 (M : IsMem S w g st) {L : List Int} (hS : Shut st.f st.os L) (vs : List Int) : ∀ x, Good L x → u64 x → u64 (runF st.f st.os x vs) := by
  induction vs with
  | nil => intro x _ h; exact h
  | cons v vs ih =>
    intro x hx hu
    simp only [runF]
    by_cases ho : x % 2 = 1
    · rw [if_pos ho]; exact hu
    · rw [if_neg ho]
      by_cases ht : (obAt st.f st.os (x / 2)).tag = 0
      · rw [if_pos ht]; exact hu
      · rw [if_neg ht]
        obtain ⟨h1, h2, h3, h4⟩ := good_next M hS hx ho ht v
        refine ih _ h1 ?_
        obtain ⟨i, hi, e1, e2, e3, -⟩ := good_at M hS hx ho
        rw [e3] at h3 ⊢
        exact word_u64 M i hi _ h3
theorem fol_u64 (M : IsMem S w g st) {L : List Int} (hS : Shut st.f st.os L) (xs way : List Int) (hx : ∀ x ∈ xs, Good L x) (hxu : ∀ x ∈ xs, u64 x) (hxl : xs.length ≤ 1000) : u64 (fol st.f st.os xs way) := by
  unfold fol
  by_cases h0 : xs.length = 0 ∨ way.length = 0
  · rw [if_pos h0]; unfold u64; omega
  · rw [if_neg h0]
    have hlt := (amg_f (way.getD 0 0) xs.length (by omega) (by omega)).2
    generalize amg (way.getD 0 0) xs.length = q at *
    have hm : xs.getD q 0 ∈ xs := by
      have : q < xs.length := by omega
      simp [List.getD, this]
    exact run_u64 M hS _ _ (hx _ hm) (hxu _ hm)
/-- What a way finds, ahead of a collection and behind it. -/
structure Ways (w : World) (g7 g : Nat) (st : St) (L : List Int) (xs way : List Int) (Aa : Option Addr) (ca : Nat) (B : Option Addr) (d : Nat) (A2 : Option Addr) (c2 : Nat) (F1 F2 : Int) (b : Bool) : Prop where
  old : ∀ W, Drawn0 w W → Calls Try.prog 38 #[.pointer (some ⟨g7, 0, none⟩), .slice Aa xs.length ca, .slice A2 way.length c2] W fun e w' => e = .returned (.tuple #[.int .u64 F1, .bool b]) ∧ Drawn0 W w'
  new : ∀ W, Drawn0 w W → Calls Try.prog 38 #[.pointer (some ⟨g, 0, none⟩), .slice B xs.length d, .slice A2 way.length c2] W fun e w' => e = .returned (.tuple #[.int .u64 F2, .bool b]) ∧ Drawn0 W w'
  yes : b = true → F2 = cw st.f2 st.f st.os L F1 ∧ Good L F1
  no : b = false → F1 = 0 ∧ F2 = 0
  u : u64 F1
theorem ways_any {S1 S15 : Nat → Prop} {g7 : Nat} {D : DataW Unit} {L xs : List Int} (O : IsMem S1 w g7 st) (M : IsMem S15 w g (cst st (col st.f2 st.f st.os L) D)) (hb : walkP st.f st.os xs = (L, true)) (hxu : ∀ x ∈ xs, u64 x) (hcu : ∀ x ∈ xs.map (cw st.f2 st.f st.os L), u64 x) (hxl : xs.length ≤ 1000)
    {Aa B A2 : Option Addr} (ca d c2 : Nat) (hCa : Kd.C (Kd.int .u64) w Aa xs.length xs) (hC : Kd.C (Kd.int .u64) w B xs.length (xs.map (cw st.f2 st.f st.os L))) {way : List Int} (hC2 : Kd.C (Kd.int .i64) w A2 way.length way) :
    ∃ F1 F2 b, Ways w g7 g st L xs way Aa ca B d A2 c2 F1 F2 b := by
  have hOL : Ord st.f st.os L := by have := Ord.walkP st.f st.os xs; rw [hb] at this; exact this
  obtain ⟨hSh, hGd⟩ := walk_shut hb
  have hp : ∀ a ∈ L, 0 ≤ (obAt st.f st.os a).tag ∧ (obAt st.f st.os a).tag ≤ (obAt st.f st.os a).fs.length ∧ (obAt st.f st.os a).tag ≤ 1000000000 := fun a ha => by
    obtain ⟨i, hi, e⟩ := mem_heads.1 (hSh.sub a ha)
    rw [e, obAt_at _ _ i hi]
    have := parts_of O i hi
    omega
  have hwi := walk_iso (f1 := st.f2) (ex := []) hb
  obtain ⟨hSh2, hGd2⟩ := walk_shut hwi
  have hfi := fun h => fol_iso (f1 := st.f2) (ex := []) hOL hSh hp xs way hGd hxl h
  rw [List.append_nil] at hfi hSh2
  refine ⟨fol st.f st.os xs way, fol st.f2 (col st.f2 st.f st.os L) (xs.map (cw st.f2 st.f st.os L)) way, folB xs way, ?_, ?_, hfi, ?_, fol_u64 O hSh xs way hGd hxu hxl⟩
  · exact fun W hd => follow_any (O.drawn hd) hSh Aa ca xs (Kd.C_below hCa hd.below) hGd hxu hxl A2 c2 way (Kd.C_below hC2 hd.below)
  · intro W hd
    have h := follow_any (st := cst st (col st.f2 st.f st.os L) D) (M.drawn hd) hSh2 B d (xs.map (cw st.f2 st.f st.os L)) (by rw [List.length_map]; exact Kd.C_below hC hd.below) hGd2 hcu (by rw [List.length_map]; exact hxl) A2 c2 way (Kd.C_below hC2 hd.below)
    rw [List.length_map, folB_map] at h
    exact h
  · intro h
    exact ⟨fol_no _ _ _ _ h, fol_no _ _ _ _ (by rw [folB_map]; exact h)⟩
theorem ways_like {S1 S15 : Nat → Prop} {g7 : Nat} {D : DataW Unit} {L xs : List Int} (O : IsMem S1 w g7 st) (M : IsMem S15 w g (cst st (col st.f2 st.f st.os L) D)) (hb : walkP st.f st.os xs = (L, true)) {F : Int} (hu : u64 F) (hF : Good L F) :
    ∀ W, Drawn0 w W → Calls Try.prog 39 #[.pointer (some ⟨g7, 0, none⟩), .int .u64 F, .pointer (some ⟨g, 0, none⟩), .int .u64 (cw st.f2 st.f st.os L F)] W fun e w' => e = .returned (.bool true) ∧ Drawn0 W w' := by
  intro W hd
  have hOL : Ord st.f st.os L := by have := Ord.walkP st.f st.os xs; rw [hb] at this; exact this
  by_cases ho : F % 2 = 1
  · rw [cw_odd ho]
    exact alike_odd F hu ho _ _ _
  · have ha := hF.resolve_left ho
    obtain ⟨i, hi, e⟩ := mem_heads.1 (hOL.sub _ ha)
    obtain ⟨j, hj, e1, e2⟩ := col_at (f1 := st.f2) (ex := []) hOL ha
    have hk := parts_of O i hi
    have h := alike_obj (su := cst st (col st.f2 st.f st.os L ++ []) D) (O.drawn hd) (by rw [List.append_nil]; exact M.drawn hd) i j hi hj (by
      show LikeO st.os[i] (col st.f2 st.f st.os L ++ [])[j]
      rw [e2, e, obAt_at _ _ i hi]
      exact like_map _ cw_par _ hk.2.2.1) (F / 2) (na st.f2 st.f st.os L (F / 2)) e.symm e1
    rw [← cw_even ho, show 2 * (F / 2) = F by omega] at h
    exact h
theorem Ways.ne {g7 : Nat} {L xs way way' : List Int} {Aa : Option Addr} {ca : Nat} {B : Option Addr} {d : Nat} {A2 : Option Addr} {c2 : Nat} {F1 F2 : Int} {b : Bool} {A3 : Option Addr} {c3 : Nat} {F1' F2' : Int} {b' : Bool} (hOL : Ord st.f st.os L) (M : IsMem S w g st)
    (X : Ways W g7 g st L xs way Aa ca B d A2 c2 F1 F2 b) (Y : Ways W g7 g st L xs way' Aa ca B d A3 c3 F1' F2' b') (h2 : 1 ≤ st.f2) : ((F1 == F1') == (F2 == F2')) = true := by
  have hz : ∀ F, Good L F → F ≠ 0 ∧ cw st.f2 st.f st.os L F ≠ 0 := fun F hF => by
    by_cases ho : F % 2 = 1
    · rw [cw_odd ho]
      omega
    · have := M.head_range (hOL.sub _ (hF.resolve_left ho))
      rw [cw_even ho]
      unfold na
      omega
  have key : F1 = F1' ↔ F2 = F2' := by
    cases b with
    | false =>
      obtain ⟨rfl, rfl⟩ := X.no rfl
      cases b' with
      | false =>
        obtain ⟨rfl, rfl⟩ := Y.no rfl
        exact Iff.rfl
      | true =>
        obtain ⟨rfl, hG⟩ := Y.yes rfl
        have := hz _ hG
        constructor <;> intro h
        · exact absurd h.symm this.1
        · exact absurd h.symm this.2
    | true =>
      obtain ⟨rfl, hG⟩ := X.yes rfl
      cases b' with
      | false =>
        obtain ⟨rfl, rfl⟩ := Y.no rfl
        have := hz _ hG
        constructor <;> intro h
        · exact absurd h this.1
        · exact absurd h this.2
      | true =>
        obtain ⟨rfl, hG'⟩ := Y.yes rfl
        exact ⟨fun h => by rw [h], fun h => cw_inj hOL hG hG' h⟩
  by_cases h : F1 = F1'
  · rw [beq_iff_eq.2 h, beq_iff_eq.2 (key.1 h)]
    rfl
  · rw [beq_eq_false_iff_ne.2 h, beq_eq_false_iff_ne.2 (fun e => h (key.2 e))]
    rfl
end Go.Proofs.Ytjccaojlldkmpaa.Mem
