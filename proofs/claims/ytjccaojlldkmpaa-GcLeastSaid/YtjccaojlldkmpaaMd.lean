/- The law's memory, made of a list of objects. -/
import Derived.Test.YtjccaojlldkmpaaGm
import Derived.Test.YtjccaojlldkmpaaPa2
namespace Go.Proofs.Ytjccaojlldkmpaa.Mem
open Go.RowKit Go.Proofs.YtjccaojlldkmpaaW.PrintWords Go.Proofs.YtjccaojlldkmpaaW.PrintLast Go.Proofs.YtjccaojlldkmpaaW.PrintMore
open Hf (rightB hdr headOf partsOf)
open Pa (S71 k71 z71 rd_T71 at_T71)
set_option linter.unusedSimpArgs false
set_option linter.unusedVariables false
set_option maxRecDepth 100000
variable {S : Nat → Prop} {w W W' w' : World} {g n B : Nat} {st : St}
/-- How far an object is from the first address. -/
def adr (l : List S71) (k : Nat) : Nat := ((l.take k).map (fun o => o.f2.length + 1)).sum
theorem adr_succ (l : List S71) (k : Nat) (h : k < l.length) : adr l (k + 1) = adr l k + (l[k].f2.length + 1) := by
  unfold adr
  rw [List.take_succ_eq_append_getElem h, List.map_append, List.sum_append]
  simp
theorem adr_mono (l : List S71) (i d : Nat) : adr l i ≤ adr l (i + d) := by
  induction d with
  | zero => exact Nat.le_refl _
  | succ d ih =>
    by_cases h : i + d < l.length
    · have := adr_succ l (i + d) h
      rw [← Nat.add_assoc]
      omega
    · have e : l.take (i + (d + 1)) = l.take (i + d) := by rw [List.take_of_length_le (by omega), List.take_of_length_le (by omega)]
      unfold adr at *
      rw [e]
      exact ih
theorem rd_at (l : List S71) (k : Nat) (h : k < l.length) : rd_T71 l (k : Int) = l[k] := by simp [rd_T71, List.getD, h]
theorem at_l (l : List S71) (k m : Nat) (hk : k ≤ l.length) (hb : adr l k ≤ 100000) (hl : l.length ≤ 100000) : ∀ d i, i + d = k → Pa.kindlingref04_At.l0 (d + 1 + m) l (k : Int) (1 + (adr l i : Int)) (i : Int) = some (1 + (adr l k : Int)) := by
  intro d
  induction d with
  | zero =>
    intro i hi
    obtain rfl : i = k := by omega
    rw [show 0 + 1 + m = m + 1 by omega, Pa.kindlingref04_At.l0, if_neg (by omega)]
  | succ d ih =>
    intro i hi
    have hi' : i < l.length := by omega
    have h1 := adr_succ l i hi'
    have h2 := adr_mono l (i + 1) d
    rw [show i + 1 + d = k by omega] at h2
    rw [show d + 1 + 1 + m = (d + 1 + m) + 1 by omega, Pa.kindlingref04_At.l0, if_pos (by omega), if_pos (by omega), if_pos (by omega), rd_at l i hi']
    have e1 : wrap64 (wrap64 (1 + (adr l i : Int) + 1) + (l[i].f2.length : Int)) = 1 + (adr l (i + 1) : Int) := by unfold wrap64; omega
    have e2 : wrap64 ((i : Int) + 1) = ((i + 1 : Nat) : Int) := by unfold wrap64; omega
    rw [e1, e2]
    exact ih (i + 1) (by omega)
theorem at_f (l : List S71) (k m : Nat) (hk : k ≤ l.length) (hb : adr l k ≤ 100000) (hl : l.length ≤ 100000) : Pa.kindlingref04_At.f (k + 1 + m) l (k : Int) = some (1 + (adr l k : Int)) := by
  have h := at_l l k m hk hb hl k 0 (by omega)
  exact h
/-- The objects on their way: what lies ahead of the f-th field of the k-th is stored. -/
def sto (wv : Nat → Nat → Int) (l : List S71) (k j : Nat) : List O := l.mapIdx fun p o => ⟨o.f0, o.f1, (List.range o.f2.length).map (fun f => if p < k ∨ (p = k ∧ f < j) then wv p f else if f < o.f1.toNat then 1 else 0)⟩
def nw (o : S71) : O := newO o.f0 o.f2.length o.f1.toNat
theorem sto_length (wv : Nat → Nat → Int) (l : List S71) (k j : Nat) : (sto wv l k j).length = l.length := by simp [sto]
theorem sto_get (wv : Nat → Nat → Int) (l : List S71) (k j p : Nat) (h : p < (sto wv l k j).length) (h' : p < l.length) :
    (sto wv l k j)[p] = ⟨l[p].f0, l[p].f1, (List.range l[p].f2.length).map (fun f => if p < k ∨ (p = k ∧ f < j) then wv p f else if f < l[p].f1.toNat then 1 else 0)⟩ := by simp [sto]
theorem sto_lens (wv : Nat → Nat → Int) (l : List S71) (k j : Nat) : (sto wv l k j).map (fun o => o.fs.length) = l.map (fun o => o.f2.length) := by
  apply List.ext_getElem
  · simp [sto]
  · intro p h1 h2
    have hp : p < l.length := by simpa using h2
    simp only [List.getElem_map]
    rw [sto_get wv l k j p (by simpa using h1) hp]
    simp
theorem pos_adr {os : List O} {l : List S71} (h : os.map (fun o => o.fs.length) = l.map (fun o => o.f2.length)) (k : Nat) : pos os k = adr l k := by
  unfold pos adr
  rw [flat_len, List.map_take, h, ← List.map_take, List.map_map]
  rfl
theorem flat_adr {os : List O} {l : List S71} (h : os.map (fun o => o.fs.length) = l.map (fun o => o.f2.length)) : (flat os).length = adr l l.length := by
  unfold adr
  rw [flat_len, h, List.map_map, List.take_length]
  rfl
theorem nw_fs (o : S71) (h : 0 ≤ o.f1 ∧ o.f1 ≤ o.f2.length) : nw o = ⟨o.f0, o.f1, (List.range o.f2.length).map (fun f => if f < o.f1.toNat then 1 else 0)⟩ := by
  have e : ((o.f1.toNat : Nat) : Int) = o.f1 := by omega
  unfold nw newO
  rw [e]
  congr 1
  apply List.ext_getElem
  · simp; omega
  · intro i h1 h2
    simp only [List.getElem_map, List.getElem_range, List.getElem_append, List.length_replicate, List.getElem_replicate]
    split <;> simp_all
theorem sto_zero (wv : Nat → Nat → Int) (l : List S71) (h : ∀ o ∈ l, 0 ≤ o.f1 ∧ o.f1 ≤ o.f2.length) : l.map nw = sto wv l 0 0 := by
  apply List.ext_getElem
  · simp [sto]
  · intro p h1 h2
    have hp : p < l.length := by simpa using h1
    rw [List.getElem_map, sto_get wv l 0 0 p h2 hp, nw_fs _ (h _ (List.getElem_mem hp))]
    congr 1
    apply List.map_congr_left
    intro f _
    rw [if_neg (show ¬ (p < 0 ∨ p = 0 ∧ f < 0) by omega)]
theorem sto_put (wv : Nat → Nat → Int) (l : List S71) (k j : Nat) (hk : k < l.length) (hj : j < l[k].f2.length) : putO (sto wv l k j) k j (wv k j) = sto wv l k (j + 1) := by
  apply List.ext_getElem
  · rw [putO_length, sto_length, sto_length]
  · intro p h1 h2
    have hp : p < (sto wv l k j).length := by rw [putO_length] at h1; exact h1
    have hpl : p < l.length := by rw [sto_length] at hp; exact hp
    rw [putO_get _ _ _ _ _ h1 hp, sto_get wv l k (j + 1) p h2 hpl, sto_get wv l k j p hp hpl]
    by_cases e : k = p
    · subst e
      rw [if_pos rfl]
      unfold O.put
      congr 1
      apply List.ext_getElem
      · simp
      · intro f h3 h4
        simp only [List.getElem_set, List.getElem_map, List.getElem_range]
        by_cases e2 : j = f
        · subst e2
          simp
        · rw [if_neg e2]
          by_cases e3 : f < j
          · simp [e3, show f < j + 1 by omega]
          · simp [e3, show ¬ f < j + 1 by omega]
    · rw [if_neg e]
      congr 1
      apply List.map_congr_left
      intro f _
      by_cases e2 : p < k
      · rw [if_pos (.inl e2), if_pos (.inl e2)]
      · have c1 : ¬ (p < k ∨ p = k ∧ f < j) := by omega
        have c2 : ¬ (p < k ∨ p = k ∧ f < j + 1) := by omega
        rw [if_neg c1, if_neg c2]
theorem sto_done (wv : Nat → Nat → Int) (l : List S71) (k : Nat) (hk : k < l.length) : sto wv l k l[k].f2.length = sto wv l (k + 1) 0 := by
  apply List.ext_getElem
  · rw [sto_length, sto_length]
  · intro p h1 h2
    have hpl : p < l.length := by rw [sto_length] at h1; exact h1
    rw [sto_get _ _ _ _ _ h1 hpl, sto_get _ _ _ _ _ h2 hpl]
    congr 1
    apply List.map_congr_left
    intro f hf
    rw [List.mem_range] at hf
    by_cases e : p < k + 1
    · have c2 : (p < k + 1 ∨ p = k + 1 ∧ f < 0) := .inl e
      have c1 : (p < k ∨ p = k ∧ f < l[k].f2.length) := by
        by_cases e2 : p = k
        · subst e2; exact .inr ⟨rfl, hf⟩
        · exact .inl (by omega)
      rw [if_pos c1, if_pos c2]
    · have c1 : ¬ (p < k ∨ p = k ∧ f < l[k].f2.length) := by omega
      have c2 : ¬ (p < k + 1 ∨ p = k + 1 ∧ f < 0) := by omega
      rw [if_neg c1, if_neg c2]
/-- What of the list the memory needs. -/
structure Gl (wv : Nat → Nat → Int) (l : List S71) (N : Int) : Prop where
  len : l.length ≤ 1000
  r : ∀ o ∈ l, rightB o.f0 o.f2.length o.f1 = true
  fit : (adr l l.length : Int) ≤ N
  n : 64 ≤ N ∧ N ≤ 65536
  wr : ∀ k f, 0 ≤ wv k f ∧ wv k f < 18446744073709551616
  wd : ∀ (k : Nat) (h : k < l.length) (f : Nat), f < l[k].f2.length → ∃ m, Pa.kindlingref04_Word.f m l (k : Int) (f : Int) = some (wv k f)
/-- What lies in the memory. -/
def full (wv : Nat → Nat → Int) (l : List S71) : List O := sto wv l l.length 0
def Cells3 (f0 f1 : Int) (m : Nat) (ad : Addr) (k : Nat) (A2 : Option Addr) (c2 : Nat) (W' : World) : Prop :=
  W'.cell? (ad.add (k * 4)) = some (.int .i64 f0) ∧ W'.cell? ⟨(ad.add (k * 4)).block, (ad.add (k * 4)).off + 1, none⟩ = some (.int .i64 f1) ∧ W'.cell? ⟨(ad.add (k * 4)).block, (ad.add (k * 4)).off + 2, none⟩ = some (.slice A2 m c2)
theorem cells3 {A : Option Addr} {l : List S71} (h : Kd.C k71 w A l.length l) (k : Nat) (hk : k < l.length) :
    ∃ ad A2 c2, A = some ad ∧ ∀ W', Below w.heap.size w W' → Cells3 l[k].f0 l[k].f1 l[k].f2.length ad k A2 c2 W' := by
  obtain ⟨ad, A2, c2, e, h0, h1, h2, h3, h4, h5⟩ := at_T71 h (k : Int) (by omega) (by omega)
  rw [rd_at l k hk, Int.toNat_natCast] at h0 h1 h2
  have lt : ∀ {a : Addr} {u : Value}, w.cell? a = some u → a.block < w.heap.size := fun {a u} h => by
    rcases Nat.lt_or_ge a.block w.heap.size with h1 | h1
    · exact h1
    · rw [World.cell?, Array.getElem?_eq_none h1] at h
      cases h
  exact ⟨ad, A2, c2, e, fun W' hb => ⟨(hb.cell (lt h0)).trans h0, (hb.cell (lt h1)).trans h1, (hb.cell (lt h2)).trans h2⟩⟩
set_option maxHeartbeats 8000000 in
theorem made_any (wv : Nat → Nat → Int) (A : Option Addr) (c : Nat) (l : List S71) (N : Int) (hC : Kd.C k71 w A l.length l) (hc : l.length ≤ c) (G : Gl wv l N) :
    Calls Try.prog 15 #[.slice A l.length c, .int .i64 N] w fun e W => ∃ g, e = .returned (.pointer (some ⟨g, 0, none⟩)) ∧ One w W g ⟨N, 0, full wv l, [], .map []⟩ := by
  have hr : ∀ o ∈ l, 0 ≤ o.f1 ∧ o.f1 ≤ o.f2.length := fun o ho => by
    obtain ⟨p1, p2, p3, p4, p5, p6⟩ := Hf.right_parts (G.r o ho)
    exact ⟨p5, p6⟩
  have hN := G.n
  have hfit := G.fit
  have hlen := G.len
  have hu71 := Try.underlying71
  go_enter Try.func15, Try.ntmps15
  go_wp2_with (first
    | (go_at_call 42; (with_reducible refine (one_new N _ hN).mono ?_); rintro e w2 ⟨g, rfl, M0⟩))
  go_loopw [7] (fun i wr => ∃ k : Nat, k ≤ l.length ∧ i = .int .i64 (k : Int) ∧ One w wr g ⟨N, 0, (l.take k).map nw, [], .map []⟩) (fun i _ => l.length - (intOf i).toNat)
  case atStart => exact ⟨0, Nat.zero_le _, rfl, M0⟩
  case round =>
    clear M0
    obtain ⟨k, hk, rfl, M⟩ := hrel
    by_cases hk1 : k < l.length
    · have t1 : decide ((k : Int) < (l.length : Int)) = true := decide_eq_true (by omega)
      have t0 : decide (0 ≤ (k : Int)) = true := decide_eq_true (by omega)
      obtain ⟨ad, A2, c2, rfl, hS⟩ := cells3 hC k hk1
      obtain ⟨q, hq⟩ : ∃ q : Nat, l[k].f1 = (q : Int) := ⟨l[k].f1.toNat, by have := hr _ (List.getElem_mem hk1); omega⟩
      have hrt := G.r _ (List.getElem_mem hk1)
      have hal := adr_mono l (k + 1) (l.length - (k + 1))
      rw [show k + 1 + (l.length - (k + 1)) = l.length by omega, adr_succ l k hk1] at hal
      have hfl : (flat ((l.take k).map nw)).length = adr l k := by
        rw [flat_adr (l := l.take k) (by rw [List.map_map]; apply List.map_congr_left; intro o ho; exact newO_len _ _ _ (by have := hr o (List.mem_of_mem_take ho); omega))]
        unfold adr
        rw [List.take_take, List.length_take, show min (min k l.length) k = k by omega]
      have hst : ({ (⟨N, 0, (l.take k).map nw, [], .map []⟩ : St) with os := (l.take k).map nw ++ [newO l[k].f0 l[k].f2.length q] } : St) = ⟨N, 0, (l.take (k + 1)).map nw, [], .map []⟩ := by
        rw [List.take_succ_eq_append_getElem hk1, List.map_append, List.map_cons, List.map_nil]
        unfold nw
        rw [hq, Int.toNat_natCast]
      have hAl : ∀ W, Drawn0 wr W → Calls Try.prog 36 #[.pointer (some ⟨g, 0, none⟩), .int .i64 l[k].f0, .int .i64 (l[k].f2.length : Int), .int .i64 (q : Int)] W fun e w' => e = .returned (.tuple #[.int .i64 (1 + (adr l k : Int)), .int .i64 0]) ∧ One w w' g ⟨N, 0, (l.take (k + 1)).map nw, [], .map []⟩ := by
        intro W hd
        have h := (M.drawn hd).alloc l[k].f0 l[k].f2.length q (by rw [← hq]; exact hrt) (by rw [hfl]; show (adr l k : Int) + l[k].f2.length + 1 ≤ N; omega)
        rw [show (⟨N, 0, (l.take k).map nw, [], .map []⟩ : St).f + ((flat ((l.take k).map nw)).length : Int) = 1 + (adr l k : Int) by rw [hfl]; simp [St.f]] at h
        refine h.mono ?_
        rintro e w' ⟨h1, h2⟩
        exact ⟨h1, hst ▸ h2⟩
      rw [hq] at hS
      have hAt : ∀ W, Below w.heap.size w W → Calls Try.prog 43 #[.slice (some ad) l.length c, .int .i64 (k : Int)] W fun e w' => e = .returned (.int .i64 (1 + (adr l k : Int))) ∧ Drawn0 W w' := fun W hb =>
        Pa.kindlingref04_At.calls (k + 1 + 0) (some ad) c l (k : Int) _ W (Kd.C_below hC hb) hc (at_f l k 0 hk (by omega) (by omega))
      have hS1 := hS wr M.1
      have hSd := hS wr.drew (below_drew M.1)
      generalize l[k].f0 = kd at hS hAl hS1 hSd
      generalize l[k].f2.length = nn at hS hAl hS1 hSd
      generalize hO2 : (l.take (k + 1)).map nw = os2 at hAl
      obtain ⟨aa, hAA⟩ : ∃ aa, (1 : Int) + (adr l k : Int) = aa := ⟨_, rfl⟩
      rw [hAA] at hAl hAt
      have hM1 := M.1
      replace hO2 := Aside0.mk hO2
      clear hst hrt hq hal hfl hAA M hr hfit
      unfold Cells3 at hS1 hSd
      go_wp2_with fail
      go_region_held3 (fun W' => W'.cell? (ad.add (k * 4)) = some (.int .i64 kd) ∧ W'.cell? ⟨(ad.add (k * 4)).block, (ad.add (k * 4)).off + 1, none⟩ = some (.int .i64 q) ∧ W'.cell? ⟨(ad.add (k * 4)).block, (ad.add (k * 4)).off + 2, none⟩ = some (.slice A2 nn c2))
        (first | (with_reducible exact hS1) | (with_reducible exact hSd) | (with_reducible exact hS5))
        (first
          | (go_at_call 36; (with_reducible refine Calls.mono (hAl _ ⟨1, rfl⟩) ?_); rintro e w5 ⟨rfl, M5⟩; have hS5 := hS w5 M5.1; unfold Cells3 at hS5))
      have hB5 := M5.1
      go_wp2_with (first
        | (go_at_call 43; (with_reducible refine (hAt _ hB5).mono ?_); rintro e w6 ⟨rfl, hd6⟩))
      go_roundw
      case rel => exact ⟨k + 1, by omega, by simp, hO2.out ▸ M5.drawn hd6⟩
      case measure => simp [intOf]; omega
    · obtain rfl : k = l.length := by omega
      have t1 : decide (((l.length : Nat) : Int) < (l.length : Int)) = false := decide_eq_false (by omega)
      rw [List.take_length, sto_zero wv l hr] at M
      go_wp2_with fail
      go_loopw [10] (fun i wr => ∃ k : Nat, k ≤ l.length ∧ i = .int .i64 (k : Int) ∧ One w wr g ⟨N, 0, sto wv l k 0, [], .map []⟩) (fun i _ => l.length - (intOf i).toNat)
      case atStart => exact ⟨0, Nat.zero_le _, rfl, M⟩
      case round =>
        clear M hk hk1 t1
        obtain ⟨k, hk, rfl, M⟩ := hrel
        by_cases hk1 : k < l.length
        · have t1 : decide ((k : Int) < (l.length : Int)) = true := decide_eq_true (by omega)
          have t0 : decide (0 ≤ (k : Int)) = true := decide_eq_true (by omega)
          have hnl : l[k].f2.length ≤ 16384 := by
            obtain ⟨p1, p2, p3, p4, p5, p6⟩ := Hf.right_parts (G.r _ (List.getElem_mem hk1))
            omega
          have hal := adr_mono l (k + 1) (l.length - (k + 1))
          rw [show k + 1 + (l.length - (k + 1)) = l.length by omega, adr_succ l k hk1] at hal
          obtain ⟨ad, A2, c2, rfl, hS⟩ := cells3 hC k hk1
          obtain ⟨nn, hnn⟩ : ∃ nn, l[k].f2.length = nn := ⟨_, rfl⟩
          rw [hnn] at hS hnl hal
          have hAt : ∀ W, Below w.heap.size w W → Calls Try.prog 43 #[.slice (some ad) l.length c, .int .i64 (k : Int)] W fun e w' => e = .returned (.int .i64 (1 + (adr l k : Int))) ∧ Drawn0 W w' := fun W hb =>
            Pa.kindlingref04_At.calls (k + 1 + 0) (some ad) c l (k : Int) _ W (Kd.C_below hC hb) hc (at_f l k 0 hk (by omega) (by omega))
          have hWd : ∀ W (j : Nat), j < nn → Below w.heap.size w W → Calls Try.prog 45 #[.slice (some ad) l.length c, .int .i64 (k : Int), .int .i64 (j : Int)] W fun e w' => e = .returned (.int .u64 (wv k j)) ∧ Below W.heap.size W w' := fun W j hj hb => by
            obtain ⟨m, hm⟩ := G.wd k hk1 j (by rw [hnn]; exact hj)
            exact Pa.kindlingref04_Word.calls m (some ad) c l (k : Int) (j : Int) _ W (Kd.C_below hC hb) hc hm
          have hSt : ∀ W (j : Nat), j < nn → One w W g ⟨N, 0, sto wv l k j, [], .map []⟩ → Calls Try.prog 44 #[.pointer (some ⟨g, 0, none⟩), .int .i64 (1 + (adr l k : Int)), .int .i64 (j : Int), .int .u64 (wv k j)] W fun e w' => e = .returned (.int .i64 0) ∧ One w w' g ⟨N, 0, sto wv l k (j + 1), [], .map []⟩ := fun W j hj M => by
            have hks : k < (sto wv l k j).length := by rw [sto_length]; exact hk1
            have hfl : (sto wv l k j)[k].fs.length = nn := by rw [sto_get wv l k j k hks hk1, ← hnn]; simp
            have h := M.store k j (wv k j) hks (by show j < (sto wv l k j)[k].fs.length; rw [hfl]; exact hj) (G.wr k j)
            rw [show (⟨N, 0, sto wv l k j, [], .map []⟩ : St).f + (pos (⟨N, 0, sto wv l k j, [], .map []⟩ : St).os k : Int) = 1 + (adr l k : Int) by rw [show pos (⟨N, 0, sto wv l k j, [], .map []⟩ : St).os k = adr l k from pos_adr (sto_lens wv l k j) k]; simp [St.f]] at h
            have hp := sto_put wv l k j hk1 (by rw [hnn]; exact hj)
            rw [show ({ (⟨N, 0, sto wv l k j, [], .map []⟩ : St) with os := putO (⟨N, 0, sto wv l k j, [], .map []⟩ : St).os k j (wv k j) } : St) = ⟨N, 0, sto wv l k (j + 1), [], .map []⟩ by rw [← hp]] at h
            exact h
          have hdn := sto_done wv l k hk1
          rw [hnn] at hdn
          have hNN := Aside0.mk hnn
          have hDN := Aside0.mk hdn
          obtain ⟨aa, hAA⟩ : ∃ aa, (1 : Int) + (adr l k : Int) = aa := ⟨_, rfl⟩
          rw [hAA] at hAt hSt
          clear hnn hdn hAA hal hfit
          go_wp2_with fail
          go_loopw [11] (fun i wr => ∃ j : Nat, j ≤ nn ∧ i = .int .i64 (j : Int) ∧ One w wr g ⟨N, 0, sto wv l k j, [], .map []⟩) (fun i _ => nn - (intOf i).toNat)
          case atStart => exact ⟨0, Nat.zero_le _, rfl, M⟩
          case round =>
            clear M
            obtain ⟨j, hj, rfl, M⟩ := hrel
            obtain ⟨hS1, hS2, hS3⟩ := hS _ M.1
            have hB4 := M.1
            by_cases hj1 : j < nn
            · have t2 : decide ((j : Int) < (nn : Int)) = true := decide_eq_true (by omega)
              go_wp2_with (first
                | (go_at_call 43; (with_reducible refine (hAt _ hB4).mono ?_); rintro e w6 ⟨rfl, hd6⟩
                   have M6 := M.drawn hd6
                   have hB6 := M6.1)
                | (go_at_call 45; (with_reducible refine (hWd _ j hj1 hB6).mono ?_); rintro e w7 ⟨rfl, hb7⟩
                   have M7 : One w w7 g ⟨N, 0, sto wv l k j, [], .map []⟩ := ⟨below_step M6.1 hb7, (One.of M6.1 (T := fun k => w.heap.size ≤ k) (Fr.of_below hb7) (M6.2.keep (T := fun _ => False) (Fr.of_below hb7) (fun _ _ h => h)) (fun _ h => h)).2⟩)
                | (go_at_call 44; (with_reducible refine (hSt _ j hj1 M7).mono ?_); rintro e w8 ⟨rfl, M8⟩))
              go_roundw
              case rel => exact ⟨j + 1, by omega, by simp, M8⟩
              case measure => simp [intOf]; omega
            · obtain rfl : j = nn := by omega
              have t2 : decide ((j : Int) < (j : Int)) = false := decide_eq_false (by omega)
              go_wp2_with fail
              go_roundw
              case rel => exact ⟨k + 1, by omega, by simp, hDN.out ▸ M⟩
              case measure => simp [intOf]; omega
        · obtain rfl : k = l.length := by omega
          have t1 : decide (((l.length : Nat) : Int) < (l.length : Int)) = false := decide_eq_false (by omega)
          go_wp2_with fail
          go_ret
          exact ⟨g, rfl, M⟩
end Go.Proofs.Ytjccaojlldkmpaa.Mem
