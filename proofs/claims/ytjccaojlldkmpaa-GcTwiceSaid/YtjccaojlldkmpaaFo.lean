/- follow, walked; what it finds behind a collection. -/
import Derived.Test.YtjccaojlldkmpaaAl
namespace Go.Proofs.Ytjccaojlldkmpaa.Mem
open Go.RowKit Go.Proofs.YtjccaojlldkmpaaW.PrintWords Go.Proofs.YtjccaojlldkmpaaW.PrintLast Go.Proofs.YtjccaojlldkmpaaW.PrintMore
open Hf (rightB hdr headOf partsOf)
set_option linter.unusedSimpArgs false
set_option linter.unusedVariables false
set_option maxRecDepth 100000
variable {S S' : Nat → Prop} {w W W' w' : World} {g g' n B : Nat} {st su : St}
/-- Where a way leads from a word. -/
def runF (f : Int) (os : List O) : Int → List Int → Int
  | x, [] => x
  | x, v :: vs => if x % 2 = 1 then x else if (obAt f os (x / 2)).tag = 0 then x else runF f os ((obAt f os (x / 2)).fs.getD (amg v (obAt f os (x / 2)).tag) 0) vs
def fol (f : Int) (os : List O) (xs way : List Int) : Int := if xs.length = 0 ∨ way.length = 0 then 0 else runF f os (xs.getD (amg (way.getD 0 0) xs.length) 0) ((way.take 60).drop 1)
def folB (xs way : List Int) : Bool := if xs.length = 0 ∨ way.length = 0 then false else true
/-- A good word's object. -/
theorem good_at (M : IsMem S w g st) {L : List Int} (hsh : Shut st.f st.os L) {x : Int} (hx : Good L x) (he : ¬ x % 2 = 1) : ∃ (i : Nat) (hi : i < st.os.length), st.f + (pos st.os i : Int) = x / 2 ∧ x = 2 * (x / 2) ∧ obAt st.f st.os (x / 2) = st.os[i] ∧ (1 ≤ x / 2 ∧ x / 2 ≤ 1000000000) := by
  have hm := hsh.sub _ (hx.resolve_left he)
  have hr := M.head_range hm
  obtain ⟨i, hi, e⟩ := mem_heads.1 hm
  exact ⟨i, hi, e.symm, by omega, by rw [e]; exact obAt_at _ _ i hi, by omega⟩
theorem good_next (M : IsMem S w g st) {L : List Int} (hsh : Shut st.f st.os L) {x : Int} (hx : Good L x) (he : ¬ x % 2 = 1) (ht : ¬ (obAt st.f st.os (x / 2)).tag = 0) (v : Int) :
    Good L ((obAt st.f st.os (x / 2)).fs.getD (amg v (obAt st.f st.os (x / 2)).tag) 0) ∧ (amg v (obAt st.f st.os (x / 2)).tag : Int) < (obAt st.f st.os (x / 2)).tag ∧ amg v (obAt st.f st.os (x / 2)).tag < (obAt st.f st.os (x / 2)).fs.length ∧
    (1 ≤ (obAt st.f st.os (x / 2)).tag ∧ (obAt st.f st.os (x / 2)).tag ≤ 1000000000) := by
  obtain ⟨i, hi, e1, e2, e3, -⟩ := good_at M hsh hx he
  have hp := parts_of M i hi
  have hm := hsh.sub _ (hx.resolve_left he)
  have hall := hsh.all _ (hx.resolve_left he)
  rw [tg_obAt _ _ _ hm] at hall
  rw [e3] at ht hall ⊢
  have ha := (amg_f v st.os[i].tag (by omega) (by omega)).2
  refine ⟨hall _ ?_, ha, by omega, by omega, by omega⟩
  have hlt : amg v st.os[i].tag < (st.os[i].fs.take st.os[i].tag.toNat).length := by rw [List.length_take]; omega
  have : st.os[i].fs.getD (amg v st.os[i].tag) 0 = (st.os[i].fs.take st.os[i].tag.toNat)[amg v st.os[i].tag] := by
    rw [List.getElem_take]
    simp only [List.getD]
    rw [List.getElem?_eq_getElem (by omega)]
    rfl
  rw [this]
  exact List.getElem_mem hlt
set_option maxHeartbeats 8000000 in
theorem follow_any (M : IsMem S w g st) {L : List Int} (hsh : Shut st.f st.os L) (A : Option Addr) (c : Nat) (xs : List Int) (hC : Kd.C (Kd.int .u64) w A xs.length xs) (hx : ∀ x ∈ xs, Good L x) (hxu : ∀ x ∈ xs, u64 x) (hxl : xs.length ≤ 1000)
    (B : Option Addr) (d : Nat) (way : List Int) (hD : Kd.C (Kd.int .i64) w B way.length way) :
    Calls Try.prog 38 #[.pointer (some ⟨g, 0, none⟩), .slice A xs.length c, .slice B way.length d] w fun e w' => e = .returned (.tuple #[.int .u64 (fol st.f st.os xs way), .bool (folB xs way)]) ∧ Drawn0 w w' := by
  by_cases h0 : xs.length = 0 ∨ way.length = 0
  · unfold fol folB
    rw [if_pos h0, if_pos h0]
    by_cases h1 : xs.length = 0
    · rw [h1]
      go_enter Try.func38, Try.ntmps38
      go_wp2_with fail
      go_ret2
      exact ⟨rfl, ⟨0, rfl⟩⟩
    · have h2 := h0.resolve_left h1
      rw [h2]
      have t1 : ((xs.length : Int) == 0) = false := beq_eq_false_iff_ne.2 (by omega)
      go_enter Try.func38, Try.ntmps38
      go_wp2_with fail
      go_ret2
      exact ⟨rfl, ⟨0, rfl⟩⟩
  · unfold fol folB
    rw [if_neg h0, if_neg h0]
    have t1 : ((xs.length : Int) == 0) = false := beq_eq_false_iff_ne.2 (by omega)
    have t2 : ((way.length : Int) == 0) = false := beq_eq_false_iff_ne.2 (by omega)
    obtain ⟨r0, hr0⟩ : ∃ r0, amg (way.getD 0 0) xs.length = r0 := ⟨_, rfl⟩
    have ha := amg41 (way.getD 0 0) xs.length (by omega) (by omega)
    have hlt := (amg_f (way.getD 0 0) xs.length (by omega) (by omega)).2
    rw [hr0] at ha hlt ⊢
    obtain ⟨ad, rfl, hrd⟩ := Kd.at_int hC (r0 : Int) (by omega) (by omega)
    obtain ⟨bd, rfl, hrb⟩ := Kd.at_int hD 0 (by omega) (by omega)
    have hrx : rd xs (r0 : Int) = xs[r0] := by
      have : r0 < xs.length := by omega
      simp [rd, List.getD, this]
    have hgx : xs.getD r0 0 = xs[r0] := by
      have : r0 < xs.length := by omega
      simp [List.getD, this]
    have hw0 : rd way 0 = way.getD 0 0 := by simp [rd]
    rw [hw0, show bd.add (Int.toNat 0) = bd by simp [Addr.add]] at hrb
    rw [hrx] at hrd
    rw [hgx]
    have hG0 := hx _ (List.getElem_mem (show r0 < xs.length by omega))
    have hU0 := hxu _ (List.getElem_mem (show r0 < xs.length by omega))
    rw [Int.toNat_natCast] at hrd
    clear hw0 hr0 hgx hrx
    generalize xs[r0] = x0 at *
    generalize way.getD 0 0 = v0 at *
    have t3 : decide ((0 : Int) < (way.length : Int)) = true := decide_eq_true (by omega)
    have t4 : decide ((r0 : Int) < (xs.length : Int)) = true := decide_eq_true (by omega)
    have t5 : decide (0 ≤ (r0 : Int)) = true := decide_eq_true (by omega)
    have hd : Drawn0 w w := ⟨0, rfl⟩
    go_enter Try.func38, Try.ntmps38
    go_wp2_with (first
      | (go_at_call 41; (with_reducible refine (ha _).mono ?_); rintro e w5 ⟨rfl, hd5⟩; replace hd := drawn_trans hd hd5; obtain ⟨m5, rfl⟩ := hd5))
    clear hrd hrb ha t3 t4 t5
    go_loopw [8, 9] (fun v i wr => ∃ (k : Nat) (x : Int), 1 ≤ k ∧ i = .int .i64 (k : Int) ∧ v = .int .u64 x ∧ Good L x ∧ u64 x ∧ k ≤ 60 ∧ runF st.f st.os x ((way.take 60).drop k) = runF st.f st.os x0 ((way.take 60).drop 1) ∧ Drawn0 w wr) (fun _ i _ => 60 - (intOf i).toNat)
    case atStart => exact ⟨1, x0, Nat.le_refl _, rfl, rfl, hG0, hU0, by omega, rfl, hd⟩
    case round =>
      clear hd
      obtain ⟨k, x, hk0, rfl, rfl, hG, hU, hk60, hrun, hd⟩ := hrel
      have hvx := fun W => int33 x hU W
      by_cases hk1 : k < way.length
      · have t1 : decide ((k : Int) < (way.length : Int)) = true := decide_eq_true (by omega)
        by_cases hk2 : k < 60
        · have t2 : decide ((k : Int) < 60) = true := decide_eq_true (by omega)
          have hkt : k < (way.take 60).length := by rw [List.length_take]; omega
          rw [List.drop_eq_getElem_cons hkt] at hrun
          by_cases ho : x % 2 = 1
          · rw [show (x % 2 == 1) = true from beq_iff_eq.2 ho] at hvx
            simp only [runF] at hrun
            rw [if_pos ho] at hrun
            have hR := Aside0.mk hrun
            clear hrun
            go_wp2_with (first
              | (go_at_call 33; (with_reducible refine (hvx _).mono ?_); rintro e w5 ⟨rfl, hd5⟩; replace hd := drawn_trans hd hd5))
            go_ret2
            exact ⟨congrArg (fun z => Ending.returned (.tuple #[.int .u64 z, .bool true])) hR.out, hd⟩
          · rw [show (x % 2 == 1) = false from beq_eq_false_iff_ne.2 ho] at hvx
            obtain ⟨i, hi, e1, e2, e3, hxr⟩ := good_at M hsh hG ho
            have htx := to35 (x / 2) hxr
            rw [← e2] at htx
            have hLk := fun W (hd : Drawn0 w W) => (M.drawn hd).look i hi
            rw [e1, ← e3] at hLk
            have hLd := fun W (hd : Drawn0 w W) (j : Nat) (hj : j < st.os[i].fs.length) => (M.drawn hd).load i j hi hj
            rw [e1, ← e3] at hLd
            have hWu := fun (j : Nat) (hj : j < st.os[i].fs.length) => word_u64 M i hi j hj
            rw [← e3] at hWu
            have hEv : 2 * (x / 2) = x := e2.symm
            clear e1 e2 e3
            by_cases ht : (obAt st.f st.os (x / 2)).tag = 0
            · simp only [runF] at hrun
              rw [if_neg ho, if_pos ht] at hrun
              rw [ht] at hLk
              have hR := Aside0.mk hrun
              clear hrun hLd hEv ht hWu
              go_wp2_with (first
                | (go_at_call 33; (with_reducible refine (hvx _).mono ?_); rintro e w5 ⟨rfl, hd5⟩; replace hd := drawn_trans hd hd5)
                | (go_at_call 35; (with_reducible refine (htx _).mono ?_); rintro e w5 ⟨rfl, hd5⟩; replace hd := drawn_trans hd hd5)
                | (go_at_call 34; (with_reducible refine (hLk _ hd).mono ?_); rintro e w5 ⟨rfl, hd5⟩; replace hd := drawn_trans hd hd5))
              go_ret2
              exact ⟨congrArg (fun z => Ending.returned (.tuple #[.int .u64 z, .bool true])) hR.out, hd⟩
            · simp only [runF] at hrun
              rw [if_neg ho, if_neg ht] at hrun
              obtain ⟨hGn, ha1, ha2, ha3⟩ := good_next M hsh hG ho ht ((way.take 60)[k])
              have hae := amg41 ((way.take 60)[k]) _ ha3.1 ha3.2
              have t3 : ((obAt st.f st.os (x / 2)).tag == 0) = false := beq_eq_false_iff_ne.2 ht
              have hcl : ∀ W, Drawn0 w W → W.cell? (bd.add k) = some (.int .i64 (way.take 60)[k]) := fun W hd => by
                obtain ⟨bd', hbd', hrb⟩ := Kd.at_int (Kd.C_below hD hd.below) (k : Int) (by omega) (by omega)
                cases hbd'
                rw [Int.toNat_natCast, show rd way (k : Int) = (way.take 60)[k] by rw [List.getElem_take]; simp [rd, List.getD, hk1]] at hrb
                exact hrb
              have hUn := hWu _ ha2
              have hLd' := fun W hd => hLd W hd _ ha2
              have hd0 := hd
              generalize (way.take 60)[k] = vk at *
              generalize hq : amg vk (obAt st.f st.os (x / 2)).tag = q at *
              generalize (obAt st.f st.os (x / 2)).fs.getD q 0 = y at *
              clear hq hLd hWu hEv ha1 ha2 hU hG ho
              generalize (obAt st.f st.os (x / 2)).tag = tg at *
              generalize (obAt st.f st.os (x / 2)).kind = kd at *
              generalize (obAt st.f st.os (x / 2)).fs.length = nf at *
              generalize x / 2 = xa at *
              have hR := Aside0.mk hrun
              clear hrun ha3
              go_wp2_with (first
                | (go_at_call 33; (with_reducible refine (hvx _).mono ?_); rintro e w5 ⟨rfl, hd5⟩; replace hd := drawn_trans hd hd5)
                | (go_at_call 35; (with_reducible refine (htx _).mono ?_); rintro e w5 ⟨rfl, hd5⟩; replace hd := drawn_trans hd hd5)
                | (go_at_call 34; (with_reducible refine (hLk _ hd).mono ?_); rintro e w5 ⟨rfl, hd5⟩; replace hd := drawn_trans hd hd5))
              have hdd := drawn_trans hd (y := _) ⟨1, rfl⟩
              have hrd := fun W (h : Drawn0 w W) => hcl W h
              go_region_held3 (fun W' => W'.cell? (bd.add k) = some (.int .i64 vk))
                (first | exact hrd _ (by assumption))
                (first
                  | (go_at_call 35; (with_reducible refine (htx _).mono ?_); rintro e w5 ⟨rfl, hd5⟩; replace hdd := drawn_trans hdd hd5)
                  | (go_at_call 41; (with_reducible refine (hae _).mono ?_); rintro e w5 ⟨rfl, hd5⟩; replace hdd := drawn_trans hdd hd5)
                  | (go_at_call 56; (with_reducible refine (hLd' _ hdd).mono ?_); rintro e w5 ⟨rfl, hd5⟩; replace hdd := drawn_trans hdd hd5))
              go_wp2_with fail
              go_roundw
              case rel => exact ⟨k + 1, y, by omega, rfl, rfl, hGn, hUn, by omega, hR.out, hdd⟩
              case measure => simp [intOf]; omega
        · obtain rfl : k = 60 := by omega
          have t2 : decide (((60 : Nat) : Int) < 60) = false := rfl
          rw [List.drop_eq_nil_of_le (by rw [List.length_take]; omega)] at hrun
          have hR := Aside0.mk hrun
          clear hrun
          go_wp2_with fail
          go_ret2
          exact ⟨congrArg (fun z => Ending.returned (.tuple #[.int .u64 z, .bool true])) hR.out, hd⟩
      · have t1 : decide ((k : Int) < (way.length : Int)) = false := decide_eq_false (by omega)
        rw [List.drop_eq_nil_of_le (by rw [List.length_take]; omega)] at hrun
        have hR := Aside0.mk hrun
        clear hrun
        go_wp2_with fail
        go_ret2
        exact ⟨congrArg (fun z => Ending.returned (.tuple #[.int .u64 z, .bool true])) hR.out, hd⟩
end Go.Proofs.Ytjccaojlldkmpaa.Mem
