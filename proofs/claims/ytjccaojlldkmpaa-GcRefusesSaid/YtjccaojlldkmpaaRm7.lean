/- The document's Reach. -/
import Derived.Test.YtjccaojlldkmpaaRm6
namespace Go.Proofs.Ytjccaojlldkmpaa.Rm
open Go.RowKit Go.Proofs.YtjccaojlldkmpaaW.PrintWords Go.Proofs.YtjccaojlldkmpaaW.PrintLast Go.Proofs.YtjccaojlldkmpaaW.PrintMore
open Mem
open Hf (rightB right_parts)
open Pa (S71 k71 z71 rd_T71 at_T71 S87 k87)
set_option linter.unusedSimpArgs false
set_option linter.unusedVariables false
set_option maxRecDepth 100000
variable {S : Nat → Prop} {w w' W : World} {g c : Nat} {vn vo v : Value} {rs : RS} {l : List P5} {size half : Int} {os olds : List O} {tz : Nat → Int}
theorem to35p (x : Int) (h : u64 x) (w : World) : Calls Try.prog 35 #[.int .u64 x] w fun e w' => e = .returned (.int .i64 (toP x)) ∧ Drawn0 w w' := by
  have h0 := h.1
  have h1 := h.2
  have e1 : Int.tmod x 2 = x % 2 := Int.tmod_eq_emod_of_nonneg h0
  have e2 : Int.tdiv x 2 = x / 2 := Int.tdiv_eq_ediv_of_nonneg h0
  have e3 : IntKind.u64.wrap (x / 2) = x / 2 := by rw [IntKind.wrap_u64]; omega
  have hp : Pa.kindlingref01_IsPtr.f x = some (decide (x % 2 = 0 ∧ 2 ≤ x ∧ x ≤ 2199023255552)) := by
    unfold Pa.kindlingref01_IsPtr.f
    rw [e1, e2, e3]
    by_cases c1 : x % 2 = 0
    · rw [if_pos c1]
      by_cases c2 : x / 2 ≥ 1
      · rw [if_pos c2]
        congr 1
        exact decide_eq_decide.2 (by omega)
      · rw [if_neg c2]
        congr 1
        exact (decide_eq_false (by omega)).symm
    · rw [if_neg c1]
      congr 1
      exact (decide_eq_false (by omega)).symm
  have hf : Pa.kindlingref01_ToPtr.f x = some (toP x) := by
    unfold Pa.kindlingref01_ToPtr.f
    rw [hp]
    unfold toP
    by_cases c : x % 2 = 0 ∧ 2 ≤ x ∧ x ≤ 2199023255552
    · show (if (decide (x % 2 = 0 ∧ 2 ≤ x ∧ x ≤ 2199023255552)) = true then some (wrap64 (IntKind.u64.wrap (Int.tdiv x 2))) else some 0) = _
      rw [if_pos (decide_eq_true c), if_pos c, e2, e3, w64 (by omega)]
    · show (if (decide (x % 2 = 0 ∧ 2 ≤ x ∧ x ≤ 2199023255552)) = true then some (wrap64 (IntKind.u64.wrap (Int.tdiv x 2))) else some 0) = _
      rw [if_neg (by rw [decide_eq_false c]; decide), if_neg c]
  exact Pa.kindlingref01_ToPtr.calls x _ w hf
theorem DocL.fb (D : DocL S w g vn vo rs size half os olds tz) : 1 ≤ 1 + half * size ∧ 1 + half * size ≤ 65537 := by
  have := D.bs
  rcases D.bh with h | h <;> rw [h] <;> omega
theorem DocL.head_range (D : DocL S w g vn vo rs size half os olds tz) {a : Int} (h : a ∈ heads (1 + half * size) os) : 1 ≤ a ∧ a ≤ 300000 := by
  obtain ⟨i, hi, rfl⟩ := mem_heads.1 h
  have h1 := pos_head os i hi
  have h2 := D.fit
  have h3 := D.bs
  have h4 := D.fb
  omega
theorem toP_yes {x : Int} (h0 : ¬ x % 2 = 1) (h : 1 ≤ x / 2 ∧ x / 2 ≤ 300000) : toP x = x / 2 := by
  unfold toP
  rw [if_pos (by omega)]
theorem DocL.toP_no (D : DocL S w g vn vo rs size half os olds tz) {x : Int} (h0 : ¬ x % 2 = 1) (h : x / 2 ∉ heads (1 + half * size) os) : ∀ p ∈ rs.now, p.o.f0 ≠ toP x := by
  intro p hp e
  obtain ⟨i, hi, rfl⟩ := List.mem_iff_getElem.1 hp
  have hl := D.len
  rw [D.at i hi (by omega)] at e
  have e' : (1 : Int) + half * size + (pos os i : Int) = toP x := e
  have hm : (1 : Int) + half * size + (pos os i : Int) ∈ heads (1 + half * size) os := mem_heads.2 ⟨i, by omega, rfl⟩
  have hr := D.head_range hm
  unfold toP at e'
  by_cases c : x % 2 = 0 ∧ 2 ≤ x ∧ x ≤ 2199023255552
  · rw [if_pos c] at e'
    exact h (e' ▸ hm)
  · rw [if_neg c] at e'
    omega
theorem DocL.found (D : DocL S w g vn vo rs size half os olds tz) (i : Nat) (hi : i < os.length) (a : Int) (ha : 1 + half * size + (pos os i : Int) = a) (W : World) (hd : Drawn0 w W) :
    Calls Try.prog 63 #[vn, .int .i64 a] W fun e w' => e = .returned (.int .i64 (i : Int)) ∧ Drawn0 W w' := by
  have hl := D.len
  have hlo := D.os_len
  refine find_at D.lies.now (by omega) a i (by omega) (by rw [D.at i (by omega) hi]; exact ha) (fun j hj e => ?_) W hd
  have := D.alone j i (by omega) (by omega) (by rw [e, D.at i (by omega) hi]; exact ha.symm)
  omega
theorem DocL.lost (D : DocL S w g vn vo rs size half os olds tz) (a : Int) (hn : ∀ p ∈ rs.now, p.o.f0 ≠ a) (W : World) (hd : Drawn0 w W) :
    Calls Try.prog 63 #[vn, .int .i64 a] W fun e w' => e = .returned (.int .i64 (-1)) ∧ Drawn0 W w' := by
  have hl := D.len
  have hlo := D.os_len
  exact find_none D.lies.now (by omega) a hn W hd
theorem DocL.keep (D : DocL S w g vn vo rs size half os olds tz) {T : Nat → Prop} (fr : Fr T w w') (hT : ∀ k, S k → ¬ T k) : DocL S w' g vn vo rs size half os olds tz := { D with lies := D.lies.keep fr hT }
theorem DocL.below (D : DocL S w g vn vo rs size half os olds tz) (hb : Below w.heap.size w w') : DocL S w' g vn vo rs size half os olds tz := D.keep (T := fun _ => False) (Fr.of_below hb) (fun _ _ h => h)
theorem DocL.drawn (D : DocL S w g vn vo rs size half os olds tz) (hd : Drawn0 w w') : DocL S w' g vn vo rs size half os olds tz := D.below hd.below
theorem int33p (x : Int) (h : u64 x) (w : World) : Calls Try.prog 33 #[.int .u64 x] w fun e w' => e = .returned (.bool (x % 2 == 1)) ∧ Drawn0 w w' := by
  have hf : Pa.kindlingref01_IsInt.f x = some (x % 2 == 1) := by
    unfold Pa.kindlingref01_IsInt.f
    rw [Int.tmod_eq_emod_of_nonneg h.1]
  exact Pa.kindlingref01_IsInt.calls x _ w hf
/-- What the words of the objects are. -/
def Whole (os : List O) : Prop := ∀ o ∈ os, (0 ≤ o.tag ∧ o.tag ≤ o.fs.length) ∧ ∀ x ∈ o.fs, u64 x
/-- What lay in w lies as it lay. -/
def Same (w W : World) : Prop := w.heap.size ≤ W.heap.size ∧ ∀ b, b < w.heap.size → W.heap[b]? = w.heap[b]?
theorem Same.refl (w : World) : Same w w := ⟨Nat.le_refl _, fun _ _ => rfl⟩
theorem Same.drew (h : Same w W) : Same w W.drew := h
theorem Same.drawn (h : Same w W) (hd : Drawn0 W w') : Same w w' := ⟨Nat.le_trans h.1 hd.below.size, fun b hb => (hd.below.block b (Nat.lt_of_lt_of_le hb h.1)).trans (h.2 b hb)⟩
theorem Same.alloc (h : Same w W) (o : Obj) : Same w (W.alloc o) := ⟨by rw [World.size_alloc]; exact Nat.le_succ_of_le h.1, fun b hb => (Below.heap_alloc W o b (Nat.lt_of_lt_of_le hb h.1)).trans (h.2 b hb)⟩
theorem Same.set (h : Same w W) {p : Addr} (hp : w.heap.size ≤ p.block) (v : Value) : Same w (W.setCell p v) := ⟨by rw [World.size_setCell]; exact h.1, fun b hb => (Below.heap_setCell W p v b (by omega)).trans (h.2 b hb)⟩
theorem Same.cell (h : Same w W) {a : Addr} {v : Value} (hc : w.cell? a = some v) : W.cell? a = some v := (World.cell?_of_block (h.2 a.block (World.block_lt_of_cell? w a hc))).trans hc
/-- Words that are read, in a row of words. -/
structure Tw (W : World) (A : Option Addr) (xs : List Int) : Prop where
  c : Kd.C (Kd.int .u64) W A xs.length xs
  t : ∀ ad, A = some ad → ∃ cells, W.heap[ad.block]? = some (.cells cells 56 (0, 0))
theorem Tw.below {A : Option Addr} {xs : List Int} (h : Tw W A xs) (hb : Below W.heap.size W w') : Tw w' A xs := ⟨Kd.C_below h.c hb, fun ad e => by
  obtain ⟨cells, hc⟩ := h.t ad e
  exact ⟨cells, blk_below hc hb⟩⟩
theorem Tw.grown {A : Option Addr} {xs : List Int} (h : Tw W A xs) {row : Option Nat} (hg : W.grownBy w' row) (hr : ∀ k, row = some k → ∃ cells, W.heap[k]? = some (.cells cells 3 (0, 0))) : Tw w' A xs := by
  have hne : ∀ ad, A = some ad → some ad.block ≠ row := fun ad e e2 => by
    obtain ⟨c1, h1⟩ := h.t ad e
    obtain ⟨c2, h2⟩ := hr _ e2.symm
    rw [h1] at h2
    cases h2
  exact ⟨C_fr h.c (Fr.of_grown hg (fun k e => e)) (fun ad e e2 => hne ad e e2.symm), fun ad e => by
    obtain ⟨cells, hc⟩ := h.t ad e
    exact ⟨cells, blk_grown hc hg (hne ad e)⟩⟩
theorem tw_row {A : Option Addr} {n c : Nat} {xs : List Int} {b : Nat} {ok : Nat → Prop} (h : (Kd.int .u64).R 56 W b ok (.slice A n c) xs) : Tw W A xs := ⟨(Kd.R_reads' h).2.2, fun ad e => by
  subst e
  obtain ⟨inner, ho⟩ := Kd.R_own h
  exact own_typed ho ad.block rfl⟩
theorem Tw.take {A : Option Addr} {xs : List Int} (h : Tw W A xs) (m : Nat) (hm : m ≤ xs.length) : Tw W A (xs.take m) := ⟨Kd.C_take h.c hm, h.t⟩
/-- From a list of words on. -/
def runP (f : Int) (os : List O) (m k : Nat) (l todo : List Int) : List Int × Bool := if (addP f os l todo).2 = true then goP f os m k (addP f os l todo).1 else addP f os l todo
def RState (w wr : World) (f : Int) (os : List O) (xs : List Int) (v6 v7 v8 : Value) : Prop :=
  ∃ (k m : Nat) (l todo : List Int) (A6 A7 : Option Addr) (c6 c7 : Nat), v6 = .slice A6 l.length c6 ∧ v7 = .slice A7 todo.length c7 ∧ v8 = .int .i64 (k : Int) ∧ (Kd.int .i64).R 3 wr w.heap.size (fun _ => True) (.slice A6 l.length c6) l ∧
    Tw wr A7 todo ∧ todo.length ≤ c7 ∧ (∀ x ∈ todo, u64 x) ∧ todo.length ≤ 70000 ∧ Ord f os l ∧ k ≤ l.length ∧ m + k = os.length + 1 ∧ runP f os m k l todo = walkP f os xs ∧ Below w.heap.size w wr
set_option maxHeartbeats 8000000 in
theorem ref_reach (D : DocL S w g vn vo rs size half os olds tz) (A : Option Addr) (c : Nat) (xs : List Int) (hC : Kd.C (Kd.int .u64) w A xs.length xs) (hc : xs.length ≤ c) (hx : ∀ x ∈ xs, u64 x) (hxl : xs.length ≤ 1000) (hos : Whole os) :
    Calls Try.prog 25 #[.pointer (some ⟨g, 0, none⟩), .slice A xs.length c] w fun e w' => ∃ v, e = .returned (.tuple #[v, .bool (walkP (1 + half * size) os xs).2]) ∧
      ((walkP (1 + half * size) os xs).2 = true → (Kd.int .i64).R 3 w' w.heap.size (fun _ => True) v (walkP (1 + half * size) os xs).1) ∧ ((walkP (1 + half * size) os xs).2 = false → v = .slice none 0 0) ∧ Below w.heap.size w w' := by
  have hu87 := Try.underlying87
  obtain ⟨f, hf⟩ : ∃ f, 1 + half * size = f := ⟨_, rfl⟩
  rw [hf]
  have hfb := D.fb
  rw [hf] at hfb
  have hf' := Aside0.mk hf
  clear hf
  go_enter Try.func25, Try.ntmps25
  go_wp2_with (first
    | ((with_reducible refine gate_builtin (b := .append) (xs := #[.tmp 15, .tmp 16]) rfl ?_); at_builtin; refine Kd.R_append_row (Value.int .u64) (0 : Int) (h1 := fun _ => rfl) (w0 := w) w.heap.size rfl (.tmp 15) (.tmp 16) 32 56 (.int .u64 0) 8 rfl Try.underlying32 info56 rfl (by decide) (.slice none 0 0) [] xs A xs.length c (fun _ => True) rfl rfl (fun _ _ => trivial) (Kd.R_nil _ _ _ _ _) hC (Below.refl _ _) (Nat.le_refl _) (by simp; omega) ?_; intro v1 w1 ho1 hb1 hg1 hat1
       rw [List.nil_append] at ho1
       obtain ⟨A1, c1, rfl⟩ := Kd.R_slice ho1))
  go_loopw [6, 7, 8] (fun v6 v7 v8 wr => RState w wr f os xs v6 v7 v8) (fun _ _ v8 _ => os.length + 1 - (intOf v8).toNat)
  case atStart => exact ⟨0, os.length + 1, [], xs, none, A1, 0, c1, rfl, rfl, rfl, Kd.R_nil _ _ _ _ _, tw_row ho1, (Kd.R_reads' ho1).2.1, hx, by omega, Ord.nil f os, Nat.le_refl _, by omega, rfl, hb1⟩
  case round =>
    clear hb1 hg1 ho1 hat1
    obtain ⟨k, m, l, todo, A6, A7, c6, c7, rfl, rfl, rfl, hR6, hT7, hc7, htd, htl, hO, hkl, hmk, hrun, hbw⟩ := hrel
    go_wp2_with fail
    go_loopw [6, 9] (fun v6 v9 wq => ∃ (j : Nat) (A6 : Option Addr) (c6 : Nat), j ≤ todo.length ∧ v9 = .int .i64 (j : Int) ∧ (addP f os l (todo.take j)).2 = true ∧ v6 = .slice A6 (addP f os l (todo.take j)).1.length c6 ∧
      (Kd.int .i64).R 3 wq w.heap.size (fun _ => True) (.slice A6 (addP f os l (todo.take j)).1.length c6) (addP f os l (todo.take j)).1 ∧ Tw wq A7 todo ∧ Below w.heap.size w wq) (fun _ v9 _ => todo.length - (intOf v9).toNat)
    case atStart => exact ⟨0, A6, c6, Nat.zero_le _, rfl, rfl, rfl, hR6, hT7, hbw⟩
    case round =>
      clear hR6 hT7 hbw
      obtain ⟨j, B6, d6, hj, rfl, hok, rfl, hR6, hT7, hbw⟩ := hrel
      by_cases hlt : j < todo.length
      · have t1 : decide ((j : Int) < (todo.length : Int)) = true := decide_eq_true (by omega)
        obtain ⟨ad, e7, hrd⟩ := Kd.at_int hT7.c (j : Int) (by omega) (by omega)
        subst e7
        rw [Int.toNat_natCast] at hrd
        have hmem : rd todo (j : Int) ∈ todo := by simp [rd, List.getD, hlt]
        have hxu := htd _ hmem
        have htk : todo.take (j + 1) = todo.take j ++ [rd todo (j : Int)] := by rw [List.take_succ_eq_append_getElem hlt]; simp [rd, List.getD, hlt]
        have hsn := addP_snoc f os l (todo.take j) (rd todo (j : Int)) hok
        rw [← htk] at hsn
        have hOj := (hO.addP (todo.take j)).1
        generalize hlj : (addP f os l (todo.take j)).1 = lj at *
        generalize rd todo (j : Int) = x at *
        have hi := fun W => int33p x hxu W
        have ht := fun W => to35p x hxu W
        have htk' := Aside0.mk htk
        have hlj' := Aside0.mk hlj
        clear htk hlj hmem
        by_cases hodd : x % 2 = 1
        · rw [show (x % 2 == 1) = true from beq_iff_eq.2 hodd] at hi
          have hsn' : addP f os l (todo.take (j + 1)) = (lj, true) := by
            rw [hsn]
            unfold add1
            rw [if_pos hodd]
            rfl
          have hSN := Aside0.mk hsn'
          clear hsn hsn'
          go_wp2_with (first
            | (go_at_call 33; (with_reducible refine (hi _).mono ?_); rintro e w5 ⟨rfl, hd5⟩))
          go_roundw
          case rel =>
            refine ⟨j + 1, B6, d6, by omega, rfl, ?_⟩
            rw [hSN.out]
            exact ⟨rfl, rfl, Kd.R_below hR6 hd5.below, hT7.below hd5.below, below_step hbw hd5.below⟩
          case measure => simp [intOf]; omega
        · rw [show (x % 2 == 1) = false from beq_eq_false_iff_ne.2 hodd] at hi
          have hd : Drawn0 wr wr := ⟨0, rfl⟩
          have Dq := D.keep (T := fun k => w.heap.size ≤ k ∧ False) (Fr.of_below hbw) (fun k _ h => h.2)
          have hcv := fun W (hd : Drawn0 wr W) => (blk_cell (Dq.drawn hd).lies.blk 2).trans (rfl : _ = some vn)
          by_cases hin : x / 2 ∈ heads f os
          · obtain ⟨i, hil, hie⟩ := mem_heads.1 hin
            have hrg := D.head_range (show x / 2 ∈ heads (1 + half * size) os by rw [hf'.out]; exact hin)
            have htp := toP_yes hodd hrg
            rw [htp] at ht
            obtain ⟨a, ha⟩ : ∃ a, x / 2 = a := ⟨_, rfl⟩
            rw [ha] at ht hrg hin hie
            have hfo := fun W hd => Dq.found i hil a (by rw [hf'.out]; exact hie.symm) W hd
            have t2 : decide ((i : Int) < 0) = false := decide_eq_false (by omega)
            have hadd : add1 f os lj x = some (if a ∈ lj then lj else lj ++ [a]) := by
              unfold add1
              rw [if_neg hodd, ha, if_pos hin]
              split <;> rfl
            rw [hadd] at hsn
            have hSN := Aside0.mk hsn
            have hlk := hOj.len
            have hlo := D.os_len
            clear hsn hadd htp hie ha
            go_wp2_with (first
              | (go_at_call 33; (with_reducible refine (hi _).mono ?_); rintro e w5 ⟨rfl, hd5⟩; replace hd := drawn_trans hd hd5)
              | (go_at_call 35; (with_reducible refine (ht _).mono ?_); rintro e w5 ⟨rfl, hd5⟩; replace hd := drawn_trans hd hd5; have hc2 := hcv _ hd)
              | (go_at_call 63; (with_reducible refine (hfo _ hd).mono ?_); rintro e w5 ⟨rfl, hd5⟩; replace hd := drawn_trans hd hd5))
            have hRk := Kd.R_below hR6 hd.below
            have hTk := hT7.below hd.below
            have hbk := below_step hbw hd.below
            have hCk := (Kd.R_reads' hRk).2.2
            clear hd5 hcv hfo hi ht hd hR6 hT7 hbw Dq hc2
            go_loopw [12, 13] (fun v12 v13 wq => ∃ q : Nat, q ≤ lj.length ∧ v13 = .int .i64 (q : Int) ∧ v12 = .bool (decide (a ∈ lj.take q)) ∧ wq = w5) (fun _ v13 _ => lj.length - (intOf v13).toNat)
            case atStart => exact ⟨0, Nat.zero_le _, rfl, by simp, rfl⟩
            case round =>
              obtain ⟨q, hq, rfl, rfl, rfl⟩ := hrel
              by_cases hql : q < lj.length
              · have t3 : decide ((q : Int) < (lj.length : Int)) = true := decide_eq_true (by omega)
                obtain ⟨ad2, e2, hr2⟩ := Kd.at_int hCk (q : Int) (by omega) (by omega)
                subst e2
                rw [Int.toNat_natCast] at hr2
                have hq2 : rd lj (q : Int) = lj[q] := by simp [rd, List.getD, hql]
                have htq : lj.take (q + 1) = lj.take q ++ [lj[q]] := List.take_succ_eq_append_getElem hql
                rw [hq2] at hr2
                generalize hy : lj[q] = y at *
                by_cases hmq : a ∈ lj.take q
                · have t4 : decide (a ∈ lj.take q) = true := decide_eq_true hmq
                  have t5 : decide (a ∈ lj.take (q + 1)) = true := decide_eq_true (by rw [htq]; exact List.mem_append_left _ hmq)
                  have T5 := Aside0.mk t5
                  clear htq hq2 hy t5
                  go_wp2_with fail
                  go_roundw
                  case rel => exact ⟨q + 1, by omega, rfl, by rw [T5.out], trivial⟩
                  case measure => simp [intOf]; omega
                · have t4 : decide (a ∈ lj.take q) = false := decide_eq_false hmq
                  have t5 : decide (a ∈ lj.take (q + 1)) = (y == a) := by
                    rw [htq]
                    by_cases e : y = a
                    · rw [decide_eq_true (by rw [← e]; simp), beq_iff_eq.2 e]
                    · rw [decide_eq_false (by simp [hmq]; exact fun h => e h.symm), beq_eq_false_iff_ne.2 e]
                  have T5 := Aside0.mk t5
                  clear htq hq2 hy t5
                  go_wp2_with fail
                  go_roundw
                  case rel => exact ⟨q + 1, by omega, rfl, by rw [T5.out], trivial⟩
                  case measure => simp [intOf]; omega
              · obtain rfl : q = lj.length := by omega
                have t3 : decide (((lj.length : Nat) : Int) < (lj.length : Int)) = false := decide_eq_false (by omega)
                rw [List.take_length]
                by_cases hma : a ∈ lj
                · have t4 : decide (a ∈ lj) = true := decide_eq_true hma
                  go_wp2_with fail
                  go_roundw
                  case rel =>
                    have h := hSN.out
                    rw [if_pos hma] at h
                    refine ⟨j + 1, B6, d6, by omega, rfl, ?_⟩
                    rw [h]
                    exact ⟨rfl, rfl, hRk, hTk, hbk⟩
                  case measure => simp [intOf]; omega
                · have t4 : decide (a ∈ lj) = false := decide_eq_false hma
                  go_wp2_with (first
                    | ((with_reducible refine gate_builtin (b := .append) (xs := #[.tmp 56, .tmp 58]) rfl ?_); at_builtin; refine Kd.R_append (Kd.int .i64) (w0 := wr) w.heap.size rfl (.tmp 56) (.tmp 58) 23 3 (.int .i64 0) 8 rfl Try.underlying23 info3 rfl (by decide) (by omega) (.slice B6 lj.length d6) lj a [.int .i64 a] (fun _ => True) (fun _ => False) rfl rfl rfl (fun _ hk => hk.elim) (fun _ _ => trivial) hRk (Below.refl _ _) hbk.size (by omega) ?_; intro v7 w7 ho7 hb7' hg7 hat7
                       obtain ⟨A7', c7', rfl⟩ := Kd.R_slice ho7))
                  go_roundw
                  case rel =>
                    have h := hSN.out
                    rw [if_neg hma] at h
                    refine ⟨j + 1, A7', c7', by omega, rfl, ?_⟩
                    rw [h]
                    refine ⟨rfl, by simp, ho7, hTk.grown hg7 (fun k hk => ?_), hbk.grown hg7 hbk.size (fun k hk => Kd.R_base hRk k hk)⟩
                    obtain ⟨inner, ho⟩ := Kd.R_own hRk
                    exact own_typed ho k hk
                  case measure => simp [intOf]; omega
          · have hlo := fun W hd => Dq.lost (toP x) (D.toP_no hodd (by rw [hf'.out]; exact hin)) W hd
            have hadd : add1 f os lj x = none := by
              unfold add1
              rw [if_neg hodd, if_neg hin]
            rw [hadd] at hsn
            have hst := addP_stop f os l (todo.take (j + 1)) (todo.drop (j + 1)) (by rw [hsn]; rfl)
            rw [List.take_append_drop, hsn] at hst
            have hw2 : (walkP f os xs).2 = false := by
              rw [← hrun]
              unfold runP
              rw [hst]
              rfl
            have HW2 := Aside0.mk hw2
            clear hsn hadd hst hw2 hrun
            go_wp2_with (first
              | (go_at_call 33; (with_reducible refine (hi _).mono ?_); rintro e w5 ⟨rfl, hd5⟩; replace hd := drawn_trans hd hd5)
              | (go_at_call 35; (with_reducible refine (ht _).mono ?_); rintro e w5 ⟨rfl, hd5⟩; replace hd := drawn_trans hd hd5; have hc2 := hcv _ hd)
              | (go_at_call 63; (with_reducible refine (hlo _ hd).mono ?_); rintro e w5 ⟨rfl, hd5⟩; replace hd := drawn_trans hd hd5))
            go_ret2
            rw [HW2.out]
            exact ⟨.slice none 0 0, rfl, fun h => by simp at h, fun _ => rfl, below_step hbw hd.below⟩
      · obtain rfl : j = todo.length := by omega
        have t1 : decide (((todo.length : Nat) : Int) < (todo.length : Int)) = false := decide_eq_false (by omega)
        rw [List.take_length] at hok hR6 ⊢
        obtain ⟨hOf, hpf⟩ := hO.addP todo
        have hrun2 := hrun
        unfold runP at hrun2
        rw [if_pos hok] at hrun2
        generalize (addP f os l todo).1 = lf at *
        have hlf := hOf.len
        have hlpl := hpf.length_le
        obtain ⟨m, rfl⟩ : ∃ m', m = m' + 1 := ⟨m - 1, by omega⟩
        have hlo := D.os_len
        by_cases hke : k = lf.length
        · have t2 : ((k : Int) == (lf.length : Int)) = true := beq_iff_eq.2 (by omega)
          rw [goP, List.getElem?_eq_none (by omega)] at hrun2
          have HRUN := Aside0.mk hrun2
          subst hke
          clear hrun2 hrun
          go_wp2_with fail
          go_ret2
          rw [← HRUN.out]
          exact ⟨_, rfl, fun _ => hR6, fun h => by simp at h, hbw⟩
        · have t2 : ((k : Int) == (lf.length : Int)) = false := beq_eq_false_iff_ne.2 (by omega)
          have hkl2 : k < lf.length := by omega
          rw [goP, List.getElem?_eq_getElem hkl2] at hrun2
          obtain ⟨i, hil, hie⟩ := mem_heads.1 (hOf.sub _ (List.getElem_mem hkl2))
          have htg := tg_at f os i hil
          rw [← hie] at htg
          replace hrun2 : runP f os m (k + 1) lf (tg f os lf[k]) = walkP f os xs := hrun2
          rw [htg] at hrun2
          have hD2 := D.below hbw
          obtain ⟨ad2, e2, hr2⟩ := Kd.at_int (Kd.R_reads' hR6).2.2 (k : Int) (by omega) (by omega)
          subst e2
          have hq2 : rd lf (k : Int) = lf[k] := by simp [rd, List.getD, hkl2]
          rw [Int.toNat_natCast, hq2] at hr2
          have hlen := hD2.len
          have hir : i < rs.now.length := by omega
          have hat := hD2.at i hir hil
          obtain ⟨qn, cn, cells, rfl, hbn, hcell⟩ := hD2.lies.now.shape (by omega)
          obtain ⟨Aw, cw, hv⟩ := Kd.R_slice (hD2.lies.now.row i hir)
          have hrw := hD2.lies.now.row i hir
          have hcl := hcell i hir
          rw [hv] at hrw
          have hfo := fun W (hb : Below wr.heap.size wr W) => (hD2.below hb).found i hil lf[k] (by rw [hf'.out]; exact hie.symm) W ⟨0, rfl⟩
          obtain ⟨hw1, hw2⟩ := hos _ (List.getElem_mem hil)
          unfold P5.cells at hcl
          rw [hv] at hcl
          rw [hat] at hcl hrw
          obtain ⟨q, hq⟩ : ∃ q : Nat, os[i].tag = (q : Int) := ⟨os[i].tag.toNat, by omega⟩
          have hfs : os[i].fs.length ≤ 65536 := by
            have h1 := pos_head os i hil
            have h2 := D.fit
            have h3 := D.bs
            omega
          rw [hq, Int.toNat_natCast] at hrun2
          rw [hq] at hcl hw1
          generalize lf[k] = a at *
          generalize os[i].kind = kd at *
          generalize os[i].fs = fs at *
          clear hat hv hq2 hie htg hq
          dsimp only at hcl hrw
          have hTw := tw_row hrw
          have hcw := (Kd.R_reads' hrw).2.1
          have hqf : q ≤ fs.length := by omega
          have hqc : (q ≤ cw) = True := eq_true (by omega)
          have d0q : decide (0 ≤ (q : Int)) = true := decide_eq_true (by omega)
          have d1q : decide ((q : Int) ≤ (cw : Int)) = true := decide_eq_true (by omega)
          have k2 : wr.cell? ⟨g, 2, none⟩ = some (.slice (some ⟨qn, 0, none⟩) rs.now.length cn) := (blk_cell hD2.lies.blk 2).trans rfl
          have l0 : wr.cell? ⟨qn, i * 5, none⟩ = some (.int .i64 (1 + half * size + (pos os i : Int))) := (blk_cell hbn _).trans (hcl 0 _ rfl)
          have l1 : wr.cell? ⟨qn, i * 5 + 1, none⟩ = some (.int .i64 kd) := (blk_cell hbn _).trans (hcl 1 _ rfl)
          have l2 : wr.cell? ⟨qn, i * 5 + 2, none⟩ = some (.int .i64 q) := (blk_cell hbn _).trans (hcl 2 _ rfl)
          have l3 : wr.cell? ⟨qn, i * 5 + 3, none⟩ = some (.slice Aw fs.length cw) := (blk_cell hbn _).trans (hcl 3 _ rfl)
          have l4 : wr.cell? ⟨qn, i * 5 + 4, none⟩ = some (.int .i64 0) := (blk_cell hbn _).trans (hcl 4 _ rfl)
          generalize 1 + half * size + (pos os i : Int) = at0 at *
          have hK : ∀ W, Same wr W → W.cell? ⟨g, 2, none⟩ = some (.slice (some ⟨qn, 0, none⟩) rs.now.length cn) ∧ W.cell? (ad2.add k) = some (.int .i64 a) ∧ W.cell? ⟨qn, i * 5, none⟩ = some (.int .i64 at0) ∧ W.cell? ⟨qn, i * 5 + 1, none⟩ = some (.int .i64 kd) ∧ W.cell? ⟨qn, i * 5 + 2, none⟩ = some (.int .i64 q) ∧ W.cell? ⟨qn, i * 5 + 3, none⟩ = some (.slice Aw fs.length cw) ∧ W.cell? ⟨qn, i * 5 + 4, none⟩ = some (.int .i64 0) := fun W h =>
            ⟨h.cell k2, h.cell hr2, h.cell l0, h.cell l1, h.cell l2, h.cell l3, h.cell l4⟩
          have hsm : Same wr wr.drew := (Same.refl wr).drew
          have hdd : Drawn0 wr wr.drew := ⟨1, rfl⟩
          have hbA := below_alloc (Below.refl _ wr) (.cells #[.int .i64 0, .int .i64 0, .int .i64 0, .slice none 0 0, .int .i64 0] 87)
          have hbB : Below wr.heap.size wr (wr.alloc (.cells #[.int .i64 0, .int .i64 0, .int .i64 0, .slice none 0 0, .int .i64 0] 87)).drew := below_drew hbA
          have hzz : (wr.alloc (.cells #[.int .i64 0, .int .i64 0, .int .i64 0, .slice none 0 0, .int .i64 0] 87)).drew.heap[wr.heap.size]? = some (.cells #[.int .i64 0, .int .i64 0, .int .i64 0, .slice none 0 0, .int .i64 0] 87 (0, 0)) := blk_new wr _
          have d0k : decide (0 ≤ (k : Int)) = true := decide_eq_true (by omega)
          have d1k : decide ((k : Int) < (lf.length : Int)) = true := decide_eq_true (by omega)
          have d0i : decide (0 ≤ (i : Int)) = true := decide_eq_true (by omega)
          have d1i : decide ((i : Int) < (rs.now.length : Int)) = true := decide_eq_true (by omega)
          have d2i : (i < rs.now.length) = True := eq_true (by omega)
          have d2k : (k < lf.length) = True := eq_true (by omega)
          have HF7 := Aside0.mk hfo
          have HRUN := Aside0.mk hrun2
          clear hcl hrw k2 l0 l1 l2 l3 l4 hr2 hrun hrun2 hfo hlen hir
          go_wp2_with fail
          go_region_held3 (fun W' => W'.cell? ⟨g, 2, none⟩ = some (.slice (some ⟨qn, 0, none⟩) rs.now.length cn) ∧ W'.cell? (ad2.add k) = some (.int .i64 a) ∧ W'.cell? ⟨qn, i * 5, none⟩ = some (.int .i64 at0) ∧ W'.cell? ⟨qn, i * 5 + 1, none⟩ = some (.int .i64 kd) ∧ W'.cell? ⟨qn, i * 5 + 2, none⟩ = some (.int .i64 q) ∧ W'.cell? ⟨qn, i * 5 + 3, none⟩ = some (.slice Aw fs.length cw) ∧ W'.cell? ⟨qn, i * 5 + 4, none⟩ = some (.int .i64 0))
            (first | (refine hK _ ?_; repeat (first | (with_reducible exact hsm) | (with_reducible exact Same.refl wr) | (with_reducible refine Same.set ?_ (by first | exact Nat.le_refl _ | exact hsm.1) _) | (with_reducible refine Same.alloc ?_ _) | (with_reducible refine Same.drew ?_))))
            (first
              | (go_at_call 63; (with_reducible refine (HF7.out _ hdd.below).mono ?_); rintro e w5 ⟨rfl, hd5⟩; replace hsm := hsm.drawn hd5; have hbF := below_step hdd.below hd5.below)
              | (go_at_call 63; (with_reducible refine (HF7.out _ hbB).mono ?_); rintro e w5 ⟨rfl, hd5⟩; replace hsm := (((Same.refl wr).alloc (.cells #[.int .i64 0, .int .i64 0, .int .i64 0, .slice none 0 0, .int .i64 0] 87)).drew).drawn hd5; have hbF := below_step hbB hd5.below
                 have hz5 := blk_below hzz hd5.below
                 have y0 := (blk_cell hz5 0).trans rfl
                 have y1 := (blk_cell hz5 1).trans rfl
                 have y2 := (blk_cell hz5 2).trans rfl
                 have y3 := (blk_cell hz5 3).trans rfl
                 have y4 := (blk_cell hz5 4).trans rfl
                 have x0 := blk_frozen hz5 0
                 have x1 := blk_frozen hz5 1
                 have x2 := blk_frozen hz5 2
                 have x3 := blk_frozen hz5 3
                 have x4 := blk_frozen hz5 4))
          · have hbx : (w5.alloc (.cells #[.int .i64 at0, .int .i64 kd, .int .i64 q, .slice Aw fs.length cw, .int .i64 0] 87)).heap[w5.heap.size]? = some (.cells #[.int .i64 at0, .int .i64 kd, .int .i64 q, .slice Aw fs.length cw, .int .i64 0] 87 (0, 0)) := blk_new _ _
            have hbW : Below wr.heap.size wr (w5.alloc (.cells #[.int .i64 at0, .int .i64 kd, .int .i64 q, .slice Aw fs.length cw, .int .i64 0] 87)) := below_alloc hbF _
            generalize w5.alloc (.cells #[.int .i64 at0, .int .i64 kd, .int .i64 q, .slice Aw fs.length cw, .int .i64 0] 87) = W9 at hbx hbW ⊢
            have b2 := (blk_cell hbx 2).trans rfl
            have b3 := (blk_cell hbx 3).trans rfl
            go_wp2_with fail
            refine ⟨⟨k + 1, m, lf, fs.take q, some ad2, Aw, d6, cw, rfl, ?_, by simp, Kd.R_below hR6 hbW, (hTw.take q hqf).below hbW, ?_, fun x hx => hw2 x (List.mem_of_mem_take hx), ?_, hOf, by omega, by omega, HRUN.out, below_step hbw hbW⟩, ?_⟩
            · rw [List.length_take, Nat.min_eq_left hqf]
            · rw [List.length_take]; omega
            · rw [List.length_take]; omega
            · simp [intOf]; omega
          · have hbx : (((((w5.setCell ⟨wr.heap.size, 0, none⟩ (.int .i64 at0)).setCell ⟨wr.heap.size, 1, none⟩ (.int .i64 kd)).setCell ⟨wr.heap.size, 2, none⟩ (.int .i64 q)).setCell ⟨wr.heap.size, 3, none⟩ (.slice Aw fs.length cw)).setCell ⟨wr.heap.size, 4, none⟩ (.int .i64 0)).heap[wr.heap.size]? = some (.cells #[.int .i64 at0, .int .i64 kd, .int .i64 q, .slice Aw fs.length cw, .int .i64 0] 87 (0, 0)) := blk_put (blk_put (blk_put (blk_put (blk_put hz5 0 _ rfl) 1 _ rfl) 2 _ rfl) 3 _ rfl) 4 _ rfl
            have hbW : Below wr.heap.size wr (((((w5.setCell ⟨wr.heap.size, 0, none⟩ (.int .i64 at0)).setCell ⟨wr.heap.size, 1, none⟩ (.int .i64 kd)).setCell ⟨wr.heap.size, 2, none⟩ (.int .i64 q)).setCell ⟨wr.heap.size, 3, none⟩ (.slice Aw fs.length cw)).setCell ⟨wr.heap.size, 4, none⟩ (.int .i64 0)) := ((((hbF.setCell (Nat.le_refl _) _).setCell (Nat.le_refl _) _).setCell (Nat.le_refl _) _).setCell (Nat.le_refl _) _).setCell (Nat.le_refl _) _
            generalize ((((w5.setCell ⟨wr.heap.size, 0, none⟩ (.int .i64 at0)).setCell ⟨wr.heap.size, 1, none⟩ (.int .i64 kd)).setCell ⟨wr.heap.size, 2, none⟩ (.int .i64 q)).setCell ⟨wr.heap.size, 3, none⟩ (.slice Aw fs.length cw)).setCell ⟨wr.heap.size, 4, none⟩ (.int .i64 0) = W9 at hbx hbW ⊢
            have b2 := (blk_cell hbx 2).trans rfl
            have b3 := (blk_cell hbx 3).trans rfl
            go_wp2_with fail
            refine ⟨⟨k + 1, m, lf, fs.take q, some ad2, Aw, d6, cw, rfl, ?_, by simp, Kd.R_below hR6 hbW, (hTw.take q hqf).below hbW, ?_, fun x hx => hw2 x (List.mem_of_mem_take hx), ?_, hOf, by omega, by omega, HRUN.out, below_step hbw hbW⟩, ?_⟩
            · rw [List.length_take, Nat.min_eq_left hqf]
            · rw [List.length_take]; omega
            · rw [List.length_take]; omega
            · simp [intOf]; omega
end Go.Proofs.Ytjccaojlldkmpaa.Rm
