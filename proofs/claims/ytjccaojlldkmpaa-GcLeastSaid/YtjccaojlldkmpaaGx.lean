/- gc.walk: what can be reached, walked. -/
import Derived.Test.YtjccaojlldkmpaaGw
import Derived.WalkMore
namespace Go.Proofs.Ytjccaojlldkmpaa.Mem
open Go.RowKit Go.Proofs.YtjccaojlldkmpaaW.PrintWords Go.Proofs.YtjccaojlldkmpaaW.PrintLast Go.Proofs.YtjccaojlldkmpaaW.PrintMore
open Hf (rightB hdr headOf partsOf)
set_option linter.unusedSimpArgs false
set_option linter.unusedVariables false
set_option maxRecDepth 100000
variable {S : Nat → Prop} {w W w' : World} {g n : Nat} {st : St}
theorem Wk.read {bm bs bo : Nat} {f : Int} {os : List O} {l : List Int} (K : Wk w W g bm bs bo f os l) (i : Nat) (hi : i < l.length) :
    ∃ gr cr, ∀ W', Below W.heap.size W W' → W'.cell? ⟨bm, 0, none⟩ = some (.pointer (some ⟨g, 0, none⟩)) ∧ W'.cell? ⟨bo, 0, none⟩ = some (.slice (some ⟨gr, 0, none⟩) l.length cr) ∧ W'.cell? ⟨gr, i, none⟩ = some (.int .i64 l[i]) := by
  obtain ⟨A, c, o1, o2⟩ := K.o
  obtain ⟨gr, cr, hv, -, -⟩ := Kd.R_form o2 (by omega)
  injection hv with e1 e2 e3
  subst e1 e3
  refine ⟨gr, c, fun W' hb => ⟨?_, ?_, ?_⟩⟩
  · exact (blk_cell ((hb.block _ (blk_lt K.m)).trans K.m) 0).trans rfl
  · exact (blk_cell ((hb.block _ (blk_lt o1)).trans o1) 0).trans rfl
  · have := (Kd.R_celln (0 : Int) (Kd.R_below o2 hb) (i : Int) (by omega) (by omega)).1
    rw [Int.toNat_natCast] at this
    rw [this]
    simp [rdOf, List.getD, hi]
theorem prefix_get {l l' : List Int} (h : l <+: l') (i : Nat) (hi : i < l.length) (hi' : i < l'.length) : l'[i] = l[i] := by
  obtain ⟨t, rfl⟩ := h
  rw [List.getElem_append_left hi]
theorem IsMem.obj_ok (M : IsMem S w g st) (i : Nat) (hi : i < st.os.length) : O.ok st.os[i] := by
  obtain ⟨vw, vh, ow, oh, mb, m, L⟩ := M
  exact L.H.ok _ (List.getElem_mem hi)
theorem IsMem.tag (M : IsMem S w g st) (i : Nat) (hi : i < st.os.length) : ∃ q : Nat, st.os[i].tag = (q : Int) ∧ q ≤ st.os[i].fs.length ∧ st.os[i].fs.length ≤ 16384 := by
  obtain ⟨p1, p2, p3, p4, p5, p6⟩ := Hf.right_parts (M.obj_ok i hi).1
  exact ⟨st.os[i].tag.toNat, by omega, by omega, by omega⟩
theorem getD_mem {fs : List Int} {j : Nat} (h : j < fs.length) : fs.getD j 0 ∈ fs := by
  have e : fs.getD j 0 = fs[j] := by simp [List.getD, h]
  rw [e]
  exact List.getElem_mem h
theorem take_split (fs : List Int) (j q : Nat) (h : j ≤ q) : fs.take j ++ (fs.take q).drop j = fs.take q := by
  have e : fs.take j = (fs.take q).take j := by rw [List.take_take, Nat.min_eq_left h]
  rw [e, List.take_append_drop]
theorem stamp0 {mb : Nat} (h : W.heap[mb]? = some (.map #[] 0)) : W.ownsMap Try.prog 3 (plainElem Try.prog 3) mb 0 (DataW.map [] : DataW Unit) := ⟨#[], 0, h, ⟨by simp, MapKept.stamped_empty 0, by simp⟩, Nat.le_refl _, rfl⟩
set_option maxHeartbeats 2000000 in
theorem Wk.start (w : World) (g bo bs : Nat) (f : Int) (os : List O) {w1 w2 : World} (h1 : Below (w.heap.size + 1) (w.alloc (.cells #[.pointer (some ⟨g, 0, none⟩)] 26)) w1)
    (ho : w1.heap[bo]? = some (.cells #[.slice none 0 0] 23 (0, 0))) (hbo : w.heap.size ≤ bo) (h2 : Below (w1.heap.size + 1) (w1.alloc (.map #[] 0)) w2) (hs : w2.heap[bs]? = some (.cells #[.map none] 94 (0, 0))) (hbs : w.heap.size ≤ bs) :
    Wk w (w2.setCell ⟨bs, 0, none⟩ (.map (some w1.heap.size))) g w.heap.size bs bo f os [] := by
  have e1 : w1.heap.size < (w1.alloc (.map #[] 0)).heap.size := by simp
  have hsz : w.heap.size + 1 ≤ w1.heap.size := by have := h1.size; simpa using this
  have hm1 : w1.heap[w.heap.size]? = some (.cells #[.pointer (some ⟨g, 0, none⟩)] 26 (0, 0)) := (h1.block _ (Nat.lt_succ_self _)).trans (blk_new w _)
  have low : ∀ k, k < w1.heap.size → w2.heap[k]? = w1.heap[k]? := fun k hk => (h2.block k (by omega)).trans ((below_alloc (Below.refl _ w1) (.map #[] 0)).block k hk)
  have hm2 := (low _ (by omega)).trans hm1
  have ho2 := (low _ (blk_lt ho)).trans ho
  have hmap : w2.heap[w1.heap.size]? = some (.map #[] 0) := (h2.block _ (by omega)).trans (blk_new w1 _)
  have ne : ∀ {k : Nat} {cs : Array Value} {t : TypeId}, w2.heap[k]? = some (.cells cs t (0, 0)) → t ≠ 94 → k ≠ bs := fun hk ht e => by
    subst e
    rw [hs] at hk
    cases hk
    exact ht rfl
  have hb2 : Below w.heap.size w w2 := by
    refine ⟨h2.os.trans h1.os, h2.tape.trans h1.tape, h2.output.trans h1.output, ?_, fun k hk => ?_⟩
    · have := h2.size
      simp at this
      omega
    · exact ((low k (by omega)).trans (h1.block k (by omega))).trans ((below_alloc (Below.refl _ w) (.cells #[.pointer (some ⟨g, 0, none⟩)] 26)).block k hk)
  have hsm : w1.heap.size ≠ bs := fun e => by
    rw [e, hs] at hmap
    cases hmap
  refine ⟨below_set hb2 hbs, blk_far hm2 (ne hm2 (by decide)) _, ⟨w1.heap.size, blk_put hs 0 _ rfl, by omega, 0, .map [], stamp0 ?_, Nat.le_refl _, Maps.isMap_empty, fun a => rfl⟩, ⟨none, 0, blk_far ho2 (ne ho2 (by decide)) _, Kd.R_nil _ _ _ _ _⟩, Nat.le_refl _, hbs, hbo, Ord.nil f os⟩
  exact ((Fr.of_set (S := fun k => k = bs) w2 ⟨bs, 0, none⟩ _ rfl).same _ (Array.getElem?_eq_some_iff.1 hmap).1 hsm).trans hmap
attribute [local go_sem] run_makeMap
set_option maxHeartbeats 8000000 in
theorem walk_any (M : IsMem S w g st) (A : Option Addr) (c : Nat) (xs : List Int) (hC : Kd.C (Kd.int .u64) w A xs.length xs) (hx : ∀ x ∈ xs, 0 ≤ x ∧ x < 18446744073709551616) (hxl : xs.length ≤ 100000) :
    Calls Try.prog 64 #[.pointer (some ⟨g, 0, none⟩), .slice A xs.length c] w fun e W => ∃ B d, e = .returned (.tuple #[.slice B (walkP st.f st.os xs).1.length d, .bool (walkP st.f st.os xs).2]) ∧
      (Kd.int .i64).R 3 W w.heap.size (fun _ => True) (.slice B (walkP st.f st.os xs).1.length d) (walkP st.f st.os xs).1 ∧ Below w.heap.size w W := by
  have hu23 := Try.underlying23
  have hu94 := Try.underlying94
  go_enter Try.func64, Try.ntmps64
  go_wp2_with fail
  go_step3
  go_wp2_with (first
    | ((with_reducible refine gate_dst (N := 6) rfl ?_); refine box_event ?hg (N := 6) ?hd (cs := #[.slice none 0 0]) (t := 23) ?hr ?_; (case hd => rfl); (case hg => rfl); (case hr => first | (go_simp; done) | (go_simp; rfl)); intro bo ho w1 hbox1 hb1; rw [World.size_alloc] at ho hb1; have HO := Aside0.mk ho; clear ho)
    | ((with_reducible refine gate_dst (N := 7) rfl ?_); refine box_event ?hg (N := 7) ?hd (cs := #[.map none]) (t := 94) ?hr ?_; (case hd => rfl); (case hg => rfl); (case hr => first | (go_simp; done) | (go_simp; rfl)); intro bs hs w2 hbox2 hb2; rw [World.size_alloc] at hs hb2; have HS := Aside0.mk hs; clear hs; have hc7 : w2.cell? ⟨bs, 0, none⟩ = some (.map none) := (blk_cell hbox2 0).trans rfl; have hf7 := blk_frozen hbox2 0))
  have K0 := Wk.start w g bo bs st.f st.os hb1 hbox1 (by rw [HO.out]; omega) hb2 hbox2 (by have := hb1.size; rw [World.size_alloc] at this; rw [HS.out]; omega)
  clear hb1 hbox1 hb2 hbox2 HO HS hc7 hf7 hu23 hu94
  generalize w2.setCell ⟨bs, 0, none⟩ (.map (some w1.heap.size)) = w3 at K0 ⊢
  generalize hbm : w.heap.size = bm at K0 ⊢
  go_loopw [9, 24] (fun ok i wr => ∃ k : Nat, k ≤ xs.length ∧ i = .int .i64 (k : Int) ∧ ok = .bool (addP st.f st.os [] (xs.take k)).2 ∧ Wk w wr g bm bs bo st.f st.os (addP st.f st.os [] (xs.take k)).1) (fun _ i _ => xs.length - (intOf i).toNat)
  case atStart => exact ⟨0, Nat.zero_le _, rfl, rfl, K0⟩
  case round =>
    clear K0
    obtain ⟨k, hk, rfl, rfl, K⟩ := hrel
    by_cases hk1 : k < xs.length
    · have t1 : decide ((k : Int) < (xs.length : Int)) = true := decide_eq_true (by omega)
      obtain ⟨ad, rfl, hrd⟩ := Kd.at_int (Kd.C_below hC K.hb) (k : Int) (by omega) (by omega)
      rw [Int.toNat_natCast] at hrd
      have hi0 : decide (0 ≤ (k : Int)) = true := decide_eq_true (by omega)
      have htk : xs.take (k + 1) = xs.take k ++ [rd xs (k : Int)] := by
        rw [List.take_succ_eq_append_getElem hk1]; congr 2; simp [rd, List.getD, hk1]
      have hxr := hx (rd xs (k : Int)) (by simp [rd, List.getD, hk1])
      cases hok : (addP st.f st.os [] (xs.take k)).2 with
      | true =>
        have hsn := addP_snoc st.f st.os [] (xs.take k) (rd xs (k : Int)) hok
        rw [← htk] at hsn
        have hG := good_any M K (rd xs (k : Int)) hxr
        go_wp2_with (first
          | (go_at_call 79; (with_reducible refine hG.mono ?_); clear hG; rintro e w5 ⟨rfl, K5⟩))
        go_roundw
        case rel => exact ⟨k + 1, by omega, by simp, by rw [hsn], by rw [hsn]; exact K5⟩
        case measure => simp [intOf]; omega
      | false =>
        have hsn := addP_stop st.f st.os [] (xs.take k) [rd xs (k : Int)] hok
        rw [← htk] at hsn
        go_wp2_with fail
        go_roundw
        case rel => exact ⟨k + 1, by omega, by simp, by rw [hsn, hok], by rw [hsn]; exact K⟩
        case measure => simp [intOf]; omega
    · obtain rfl : k = xs.length := by omega
      have t1 : decide (((xs.length : Nat) : Int) < (xs.length : Int)) = false := decide_eq_false (by omega)
      rw [List.take_length] at K ⊢
      clear hC hx t1
      go_wp2_with fail
      go_step3
      go_wp2_with fail
      have H0 : ∃ (i0 : Nat) (l : List Int) (b : Bool), (0 : Int) = (i0 : Int) ∧ (addP st.f st.os [] xs).2 = b ∧ Wk w wr g bm bs bo st.f st.os l ∧ i0 ≤ l.length ∧ (b = true → walkP st.f st.os xs = goP st.f st.os (st.os.length + 1 - i0) i0 l) ∧ (b = false → walkP st.f st.os xs = (l, false)) := by
        refine ⟨0, _, _, rfl, rfl, K, Nat.zero_le _, fun h => ?_, fun h => ?_⟩
        · unfold walkP; rw [if_pos h]; rfl
        · unfold walkP; rw [h]; exact Prod.ext rfl h
      clear K hk hk1
      generalize (addP st.f st.os [] xs).2 = b0 at H0 ⊢
      go_loopw [9, 12] (fun ok i wr => ∃ (i0 : Nat) (l : List Int) (b : Bool), i = .int .i64 (i0 : Int) ∧ ok = .bool b ∧ Wk w wr g bm bs bo st.f st.os l ∧ i0 ≤ l.length ∧ (b = true → walkP st.f st.os xs = goP st.f st.os (st.os.length + 1 - i0) i0 l) ∧ (b = false → walkP st.f st.os xs = (l, false))) (fun _ i _ => st.os.length + 1 - (intOf i).toNat)
      case atStart =>
        obtain ⟨i0, l, b, h1, h2, h3, h4, h5, h6⟩ := H0
        exact ⟨i0, l, b, by rw [h1], by rw [h2], h3, h4, h5, h6⟩
      case round =>
        clear H0
        obtain ⟨i0, l, b, rfl, rfl, K, hil, hW1, hW0⟩ := hrel
        obtain ⟨Ao, co, ho1, ho2⟩ := K.o
        have hcB : wr.cell? ⟨bo, 0, none⟩ = some (.slice Ao l.length co) := (blk_cell ho1 0).trans rfl
        have hol := K.ord.len
        have hml := M.os_len
        cases b with
        | false =>
          have hW := hW0 rfl
          clear hW1 hW0
          go_wp2_with fail
          try rw [Exit.noGoto_ret]
          go_ret2
          rw [hW]
          exact ⟨Ao, co, rfl, ho2, K.hb⟩
        | true =>
          have hW := hW1 rfl
          clear hW1 hW0
          by_cases hlt : i0 < l.length
          · have t1 : decide ((i0 : Int) < (l.length : Int)) = true := decide_eq_true (by omega)
            have hi0 : decide (0 ≤ (i0 : Int)) = true := decide_eq_true (by omega)
            obtain ⟨i, hi, hai⟩ := mem_heads.1 (K.ord.sub l[i0] (List.getElem_mem hlt))
            obtain ⟨q, hq, hq1, hq2⟩ := M.tag i hi
            have htg : tg st.f st.os l[i0] = st.os[i].fs.take q := by rw [hai, tg_at _ _ _ hi, hq, Int.toNat_natCast]
            have hok := (M.obj_ok i hi).2
            have hgo : goP st.f st.os (st.os.length + 1 - i0) i0 l = if (addP st.f st.os l (st.os[i].fs.take q)).2 then goP st.f st.os (st.os.length + 1 - (i0 + 1)) (i0 + 1) (addP st.f st.os l (st.os[i].fs.take q)).1 else addP st.f st.os l (st.os[i].fs.take q) := by
              rw [show st.os.length + 1 - i0 = (st.os.length + 1 - (i0 + 1)) + 1 by omega, goP, List.getElem?_eq_getElem hlt]
              simp only [htg]
            rw [hgo] at hW
            clear hgo
            obtain ⟨a, hA⟩ : ∃ a, l[i0] = a := ⟨_, rfl⟩
            have hL : ∀ W', Below w.heap.size w W' → Calls Try.prog 34 #[.pointer (some ⟨g, 0, none⟩), .int .i64 a] W' fun e w' => e = .returned (.tuple #[.int .i64 st.os[i].kind, .int .i64 st.os[i].fs.length, .int .i64 (q : Int), .int .i64 0]) ∧ Drawn0 W' w' := fun W' hb => by
              have h := (M.below hb).look i hi
              rw [← hai, hA, hq] at h
              exact h
            have hD : ∀ W' (j : Nat), Below w.heap.size w W' → j < q → Calls Try.prog 56 #[.pointer (some ⟨g, 0, none⟩), .int .i64 a, .int .i64 (j : Int)] W' fun e w' => e = .returned (.tuple #[.int .u64 (st.os[i].fs.getD j 0), .int .i64 0]) ∧ Drawn0 W' w' := fun W' j hb hj => by
              have h := (M.below hb).load i j hi (by omega)
              rw [← hai, hA] at h
              exact h
            obtain ⟨gr, cr, hS⟩ := K.read i0 hlt
            rw [hA] at hS
            clear hai hq htg hcB ho1 ho2
            obtain ⟨hS1, hS2, hS3⟩ := hS wr (Below.refl _ _)
            go_wp2_with fail
            have hSd := hS wr.drew (below_drew (Below.refl _ _))
            go_region_held3 (fun W' => W'.cell? ⟨bm, 0, none⟩ = some (.pointer (some ⟨g, 0, none⟩)) ∧ W'.cell? ⟨bo, 0, none⟩ = some (.slice (some ⟨gr, 0, none⟩) l.length cr) ∧ W'.cell? ⟨gr, i0, none⟩ = some (.int .i64 a))
              (first | (with_reducible exact ⟨hS1, hS2, hS3⟩) | (with_reducible exact hSd) | (with_reducible exact hS5))
              (first
                | (go_at_call 34; (with_reducible refine Calls.mono (hL _ (below_drew K.hb)) ?_); rintro e w5 ⟨rfl, hd5⟩; have K5 := (K.drawn (w' := wr.drew) ⟨1, rfl⟩).drawn hd5; have hS5 := hS w5 (below_step (below_drew (Below.refl _ _)) hd5.below)))
            have hord := K.ord
            have hpre := fun ys : List Int => (Ord.addP ys hord).2
            clear hS1 hS2 hS3 hSd hS5 hS hd5 hL K t1
            go_wp2_with fail
            obtain ⟨fs, hfs⟩ : ∃ fs, st.os[i].fs = fs := ⟨_, rfl⟩
            rw [hfs] at hD hok hW hq1 hq2
            generalize st.os[i].kind = kd
            rw [hfs]
            clear hfs
            go_loopw [9, 56] (fun okv jv wr => ∃ (j : Nat), okv = .bool true ∧ jv = .int .i64 (j : Int) ∧ j ≤ q ∧ (addP st.f st.os l (fs.take j)).2 = true ∧ Wk w wr g bm bs bo st.f st.os (addP st.f st.os l (fs.take j)).1) (fun _ jv _ => q - (intOf jv).toNat)
            case atStart => exact ⟨0, rfl, rfl, Nat.zero_le _, rfl, K5⟩
            case round =>
              clear K5
              obtain ⟨j, rfl, rfl, hjq, hj2, K⟩ := hrel
              by_cases hjn : j < q
              · have t3 : decide ((j : Int) < (q : Int)) = true := decide_eq_true (by omega)
                have hol2 := K.ord.len
                have hlt2 : i0 < (addP st.f st.os l (fs.take j)).1.length := Nat.lt_of_lt_of_le hlt (hpre (fs.take j)).length_le
                have hpg := prefix_get (hpre (fs.take j)) i0 hlt hlt2
                have htk : fs.take (j + 1) = fs.take j ++ [fs.getD j 0] := by
                  rw [List.take_succ_eq_append_getElem (by omega)]; congr 2; simp [List.getD, show j < fs.length by omega]
                have hxr := hok (fs.getD j 0) (getD_mem (by omega))
                have hsn := addP_snoc st.f st.os l (fs.take j) (fs.getD j 0) hj2
                rw [← htk] at hsn
                obtain ⟨y, hY⟩ : ∃ y, fs.getD j 0 = y := ⟨_, rfl⟩
                have hD1 := fun W' hb => hD W' j hb hjn
                rw [hY] at hD1 hxr hsn
                have hrest : (add1 st.f st.os (addP st.f st.os l (fs.take j)).1 y).isSome = false → addP st.f st.os l (fs.take q) = ((addP st.f st.os l (fs.take j)).1, false) := fun h => by
                  have e := addP_stop st.f st.os l (fs.take (j + 1)) ((fs.take q).drop (j + 1)) (by rw [hsn]; exact h)
                  have e2 := take_split fs (j + 1) q (by omega)
                  rw [e2] at e
                  rw [e, hsn]
                  rw [Option.isSome_eq_false_iff, Option.isNone_iff_eq_none] at h
                  rw [h]
                  rfl
                clear htk hY hD
                obtain ⟨l2, hl2⟩ : ∃ l2, (addP st.f st.os l (fs.take j)).1 = l2 := ⟨_, rfl⟩
                obtain ⟨gr, cr, hS⟩ := K.read i0 hlt2
                rw [hpg, hA] at hS
                rw [hl2] at K hol2 hsn hrest hS hlt2
                clear hpg hl2
                obtain ⟨hS1, hS2, hS3⟩ := hS wr (Below.refl _ _)
                have t4 : decide ((i0 : Int) < (l2.length : Int)) = true := decide_eq_true (by omega)
                go_wp2_with fail
                have hSd := hS wr.drew (below_drew (Below.refl _ _))
                go_region_held3 (fun W' => W'.cell? ⟨bm, 0, none⟩ = some (.pointer (some ⟨g, 0, none⟩)) ∧ W'.cell? ⟨bo, 0, none⟩ = some (.slice (some ⟨gr, 0, none⟩) l2.length cr) ∧ W'.cell? ⟨gr, i0, none⟩ = some (.int .i64 a))
                  (first | (with_reducible exact ⟨hS1, hS2, hS3⟩) | (with_reducible exact hSd) | (with_reducible exact hS5))
                  (first
                    | (go_at_call 56; (with_reducible refine Calls.mono (hD1 _ (below_drew K.hb)) ?_); rintro e w5 ⟨rfl, hd5⟩; have K5 := (K.drawn (w' := wr.drew) ⟨1, rfl⟩).drawn hd5; have hS5 := hS w5 (below_step (below_drew (Below.refl _ _)) hd5.below)))
                have hG := good_any M K5 y hxr
                clear hS1 hS2 hS3 hSd hS5 hS hd5 K t4 hD1
                cases had : add1 st.f st.os l2 y with
                | some l3 =>
                  rw [had] at hG hsn
                  replace hG : Calls Try.prog 79 #[.int .u64 y, .pointer (some ⟨bm, 0, none⟩), .pointer (some ⟨bs, 0, none⟩), .pointer (some ⟨bo, 0, none⟩)] w5 fun e W' => e = .returned (.bool true) ∧ Wk w W' g bm bs bo st.f st.os l3 := hG
                  replace hsn : addP st.f st.os l (fs.take (j + 1)) = (l3, true) := hsn
                  clear hrest had
                  go_wp2_with (first
                    | (go_at_call 79; (with_reducible refine hG.mono ?_); clear hG; rintro e w6 ⟨rfl, K6⟩))
                  go_roundw
                  case rel => exact ⟨j + 1, rfl, by simp, by omega, by rw [hsn], by rw [hsn]; exact K6⟩
                  case measure => simp [intOf]; omega
                | none =>
                  rw [had] at hG hrest
                  have hr := hrest rfl
                  rw [hr] at hW
                  replace hW : walkP st.f st.os xs = (l2, false) := hW
                  replace hG : Calls Try.prog 79 #[.int .u64 y, .pointer (some ⟨bm, 0, none⟩), .pointer (some ⟨bs, 0, none⟩), .pointer (some ⟨bo, 0, none⟩)] w5 fun e W' => e = .returned (.bool false) ∧ Wk w W' g bm bs bo st.f st.os l2 := hG
                  clear hrest had hsn hr
                  go_wp2_with (first
                    | (go_at_call 79; (with_reducible refine hG.mono ?_); clear hG; rintro e w6 ⟨rfl, K6⟩
                       obtain ⟨Ao, co, ho1, ho2⟩ := K6.o
                       have hcB : w6.cell? ⟨bo, 0, none⟩ = some (.slice Ao l2.length co) := (blk_cell ho1 0).trans rfl))
                  try rw [Exit.noGoto_ret]
                  go_ret2
                  rw [hW]
                  exact ⟨Ao, co, rfl, ho2, K6.hb⟩
              · obtain rfl : j = q := by omega
                have t3 : decide ((j : Int) < (j : Int)) = false := decide_eq_false (by omega)
                rw [hj2, if_pos rfl] at hW
                go_wp2_with fail
                go_roundw
                case rel => exact ⟨i0 + 1, _, true, by simp, rfl, K, Nat.lt_of_lt_of_le hlt (hpre _).length_le, fun _ => hW, fun h => by cases h⟩
                case measure => simp [intOf]; omega
          · obtain rfl : i0 = l.length := by omega
            have t1 : decide (((l.length : Nat) : Int) < (l.length : Int)) = false := decide_eq_false (by omega)
            have hWe : walkP st.f st.os xs = (l, true) := by
              rw [hW, show st.os.length + 1 - l.length = (st.os.length - l.length) + 1 by omega]
              simp [goP]
            go_wp2_with fail
            try rw [Exit.noGoto_ret]
            go_ret2
            rw [hWe]
            exact ⟨Ao, co, rfl, ho2, K.hb⟩
end Go.Proofs.Ytjccaojlldkmpaa.Mem
