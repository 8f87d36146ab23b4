/- A memory filled by a row of numbers, and the rows of addresses and of sizes beside it. -/
import Derived.Test.YtaliolnndbnfhaaFull
namespace Go.Proofs.Ytaliolnndbnfhaa.Mem
open Go.RowKit Go.Proofs.YtaliolnndbnfhaaW.PrintWords Go.Proofs.YtaliolnndbnfhaaW.PrintLast Go.Proofs.YtaliolnndbnfhaaW.PrintMore
open Hf (rightB hdr headOf partsOf w64_of)
set_option linter.unusedSimpArgs false
set_option linter.unusedVariables false
variable {S : Nat → Prop} {w w' : World} {g mb n : Nat} {st : St} {vw vh ow oh : Value}
theorem own_lt {v : Value} {xs : List Int} (h : Ws w v xs) (k : Nat) (hk : v.ownBlock = some k) : k < w.heap.size := Kd.R_lt h k hk
theorem IsMem.bound (M : IsMem S w g st) : IsMem (fun k => S k ∧ k < w.heap.size) w g st := by
  obtain ⟨vw, vh, ow, oh, mb, n, L⟩ := M
  exact ⟨vw, vh, ow, oh, mb, n, L.H, L.sz, L.hf, L.fit, L.ofit, L.ows, L.ohs, L.ook, L.map, L.mn, L.apW, L.apH, ⟨L.s1, blk_lt L.H.blk⟩, ⟨L.s2, L.map.lt⟩, fun k hk => ⟨L.s3 k hk, Kd.R_lt L.H.ws k hk⟩, fun k hk => ⟨L.s4 k hk, Kd.R_lt L.H.hs k hk⟩,
    fun k hk => ⟨L.s5 k hk, Kd.R_lt L.ows k hk⟩, fun k hk => ⟨L.s6 k hk, Kd.R_lt L.ohs k hk⟩⟩
/-- A memory and two rows of numbers beside it, all made since w0. -/
structure FilS (S : Nat → Prop) (w0 w : World) (g : Nat) (st : St) (va vs : Value) (ads ss : List Int) : Prop where
  mem : IsMem S w g st
  low : ∀ k, S k → w0.heap.size ≤ k ∧ k < w.heap.size
  ra : Hs w va ads
  rs : Hs w vs ss
  na : ∀ k, va.ownBlock = some k → ¬ S k ∧ w0.heap.size ≤ k
  ns : ∀ k, vs.ownBlock = some k → ¬ S k ∧ w0.heap.size ≤ k
  nn : ∀ k, va.ownBlock = some k → vs.ownBlock ≠ some k
  bel : Below w0.heap.size w0 w
def Fil (w0 w : World) (g : Nat) (st : St) (va vs : Value) (ads ss : List Int) : Prop := ∃ S, FilS S w0 w g st va vs ads ss
variable {w0 : World} {va vs : Value} {ads ss : List Int}
theorem Fil.one (F : Fil w0 w g st va vs ads ss) : One w0 w g st := by
  obtain ⟨S, F⟩ := F
  obtain ⟨vw, vh, ow, oh, mb, n, L⟩ := F.mem
  exact ⟨F.bel, vw, vh, ow, oh, mb, n, L.more (fun k hk => (F.low k hk).1)⟩
theorem Fil.ra (F : Fil w0 w g st va vs ads ss) : Hs w va ads := by obtain ⟨S, F⟩ := F; exact F.ra
theorem Fil.rs (F : Fil w0 w g st va vs ads ss) : Hs w vs ss := by obtain ⟨S, F⟩ := F; exact F.rs
theorem Fil.start (M : One w0 w g st) : Fil w0 w g st (.slice none 0 0) (.slice none 0 0) [] [] :=
  ⟨_, M.2.bound, fun k hk => ⟨hk.1, hk.2⟩, Kd.R_nil _ _ _ _ _, Kd.R_nil _ _ _ _ _, fun k hk => by simp [Value.ownBlock] at hk, fun k hk => by simp [Value.ownBlock] at hk, fun k hk => by simp [Value.ownBlock] at hk, M.1⟩
/-- A call that turns the memory alone. -/
theorem Fil.turn {st' : St} (F : FilS S w0 w g st va vs ads ss) (M : IsMem (fun k => S k ∨ w.heap.size ≤ k) w' g st') (fr : Fr S w w') : Fil w0 w' g st' va vs ads ss := by
  refine ⟨_, M.bound, fun k hk => ⟨?_, hk.2⟩, keepH F.ra fr (fun k hk => (F.na k hk).1), keepH F.rs fr (fun k hk => (F.ns k hk).1), fun k hk => ⟨?_, (F.na k hk).2⟩, fun k hk => ⟨?_, (F.ns k hk).2⟩, F.nn, ?_⟩
  · rcases hk.1 with h | h
    · exact (F.low k h).1
    · exact Nat.le_trans F.bel.size h
  · rintro ⟨h | h, -⟩
    · exact (F.na k hk).1 h
    · have := Kd.R_lt F.ra k hk; omega
  · rintro ⟨h | h, -⟩
    · exact (F.ns k hk).1 h
    · have := Kd.R_lt F.rs k hk; omega
  · exact F.bel.trans ⟨fr.low.os, fr.low.tape, fr.low.output, fr.low.size, fun k hk => fr.same k (Nat.lt_of_lt_of_le hk F.bel.size) (fun h => by have := (F.low k h).1; omega)⟩
theorem Fil.drawn (F : Fil w0 w g st va vs ads ss) (hd : Drawn0 w w') : Fil w0 w' g st va vs ads ss := by
  obtain ⟨S, F⟩ := F
  have M' : IsMem S w' g st := F.mem.keep (T := fun _ => False) (Fr.of_drawn hd) (fun _ _ h => h)
  obtain ⟨vw, vh, ow, oh, mb, n, L⟩ := M'
  exact Fil.turn F ⟨vw, vh, ow, oh, mb, n, L.more (fun k hk => .inl hk)⟩ (Fr.of_drawn hd)
theorem Fil.alloc (F : Fil w0 w g st va vs ads ss) (k : Int) (n q : Nat) (hr : rightB k n q = true) (hfree : ((flat st.os).length : Int) + n + 1 ≤ st.size) :
    Calls Try.prog 21 #[.pointer (some ⟨g, 0, none⟩), .int .i64 k, .int .i64 n, .int .i64 q] w fun e w' =>
      e = .returned (.tuple #[.int .i64 (st.f + ((flat st.os).length : Int)), .int .i64 0]) ∧ Fil w0 w' g { st with os := st.os ++ [newO k n q] } va vs ads ss := by
  obtain ⟨S, F⟩ := F
  refine (F.mem.alloc k n q hr hfree).mono ?_
  rintro e w' ⟨he, h1, h2⟩
  exact ⟨he, Fil.turn F h1 h2⟩
theorem Fil.store (F : Fil w0 w g st va vs ads ss) (i j : Nat) (v : Int) (hi : i < st.os.length) (hj : j < st.os[i].fs.length) (hv : 0 ≤ v ∧ v < 18446744073709551616) :
    Calls Try.prog 25 #[.pointer (some ⟨g, 0, none⟩), .int .i64 (st.f + (pos st.os i : Int)), .int .i64 j, .int .u64 v] w fun e w' => e = .returned (.int .i64 0) ∧ Fil w0 w' g { st with os := putO st.os i j v } va vs ads ss := by
  obtain ⟨S, F⟩ := F
  refine (F.mem.store i j v hi hj hv).mono ?_
  rintro e w' ⟨he, h1, h2⟩
  exact ⟨he, Fil.turn F h1 h2⟩
/-- One address more. -/
theorem Fil.pushA (F : Fil w0 w g st va vs ads ss) {va' : Value} {ads' : List Int} (hR : Hs w' va' ads') (hg : w.grownBy w' va.ownBlock) (ha : va'.ownBlock = va.ownBlock ∨ ∃ b, va'.ownBlock = some b ∧ w.heap.size ≤ b) : Fil w0 w' g st va' vs ads' ss := by
  obtain ⟨S, F⟩ := F
  have fr : Fr (fun k => va.ownBlock = some k) w w' := Fr.of_grown hg (fun k hk => hk)
  refine ⟨S, F.mem.keep fr (fun k hk h => (F.na k h).1 hk), fun k hk => ⟨(F.low k hk).1, Nat.lt_of_lt_of_le (F.low k hk).2 hg.size⟩, hR, keepH F.rs fr (fun k hk h => F.nn k h hk), fun k hk => ?_, F.ns, fun k hk e => ?_,
    F.bel.grown hg F.bel.size (fun k hk => (F.na k hk).2)⟩
  · rcases ha with h | ⟨b, h, hb⟩
    · exact F.na k (h ▸ hk)
    · rw [h] at hk; cases hk
      exact ⟨fun hs => by have := (F.low _ hs).2; omega, Nat.le_trans F.bel.size hb⟩
  · rcases ha with h | ⟨b, h, hb⟩
    · exact F.nn k (h ▸ hk) e
    · rw [h] at hk; cases hk
      have := Kd.R_lt F.rs _ e; omega
/-- One size more. -/
theorem Fil.pushS (F : Fil w0 w g st va vs ads ss) {vs' : Value} {ss' : List Int} (hR : Hs w' vs' ss') (hg : w.grownBy w' vs.ownBlock) (ha : vs'.ownBlock = vs.ownBlock ∨ ∃ b, vs'.ownBlock = some b ∧ w.heap.size ≤ b) : Fil w0 w' g st va vs' ads ss' := by
  obtain ⟨S, F⟩ := F
  have fr : Fr (fun k => vs.ownBlock = some k) w w' := Fr.of_grown hg (fun k hk => hk)
  refine ⟨S, F.mem.keep fr (fun k hk h => (F.ns k h).1 hk), fun k hk => ⟨(F.low k hk).1, Nat.lt_of_lt_of_le (F.low k hk).2 hg.size⟩, keepH F.ra fr (fun k hk h => F.nn k hk h), hR, F.na, fun k hk => ?_, fun k hk e => ?_,
    F.bel.grown hg F.bel.size (fun k hk => (F.ns k hk).2)⟩
  · rcases ha with h | ⟨b, h, hb⟩
    · exact F.ns k (h ▸ hk)
    · rw [h] at hk; cases hk
      exact ⟨fun hs => by have := (F.low _ hs).2; omega, Nat.le_trans F.bel.size hb⟩
  · rcases ha with h | ⟨b, h, hb⟩
    · exact F.nn k hk (h ▸ e)
    · rw [h] at e; cases e
      have := Kd.R_lt F.ra _ hk; omega
/-! ### What lies in it -/
def partO (i n k : Nat) : O := ⟨1, n, (List.range k).map (fun j => ((100 * i + j : Nat) : Int)) ++ List.replicate (n - k) 1⟩
def fillO (i n : Nat) : O := partO i n n
def fillOs (ns : List Nat) : List O := ns.mapIdx fillO
theorem partO_len (i n k : Nat) (h : k ≤ n) : (partO i n k).fs.length = n := by simp [partO]; omega
theorem partO_new (i n : Nat) : newO 1 n n = partO i n 0 := by simp [newO, partO]
theorem partO_put (i n k : Nat) (h : k < n) : (partO i n k).put k ((100 * i + k : Nat) : Int) = partO i n (k + 1) := by
  unfold partO O.put
  congr 1
  obtain ⟨m, hm⟩ : ∃ m, n - k = m + 1 := ⟨n - k - 1, by omega⟩
  rw [hm, show n - (k + 1) = m by omega, List.replicate_succ, List.set_append_right _ _ (by simp), List.range_succ, List.map_append]
  simp
theorem fillOs_snoc (ns : List Nat) (n : Nat) : fillOs (ns ++ [n]) = fillOs ns ++ [fillO ns.length n] := by simp [fillOs, List.mapIdx_append]
theorem fillOs_length (ns : List Nat) : (fillOs ns).length = ns.length := by simp [fillOs]
theorem fillOs_get (ns : List Nat) (i : Nat) (h : i < (fillOs ns).length) (h' : i < ns.length) : (fillOs ns)[i] = fillO i ns[i] := by simp [fillOs]
theorem putO_last (os : List O) (o : O) (j : Nat) (v : Int) : putO (os ++ [o]) os.length j v = os ++ [o.put j v] := by
  rw [putO_eq _ _ _ _ (by simp)]
  simp
theorem get_last (os : List O) (o : O) (h : os.length < (os ++ [o]).length) : (os ++ [o])[os.length] = o := by simp
theorem pos_last (os : List O) (o : O) : pos (os ++ [o]) os.length = (flat os).length := by simp [pos]
theorem fill_flat (ns : List Nat) (n : Nat) : (flat (fillOs (ns ++ [n]))).length = (flat (fillOs ns)).length + n + 1 := by
  rw [fillOs_snoc, flat_append, flat_one, List.length_append, row_length, show (fillO ns.length n).fs.length = n from partO_len _ _ _ (Nat.le_refl _)]
  omega
theorem tuple_right (n : Nat) (h1 : 1 ≤ n) (h2 : n ≤ 100) : rightB 1 n n = true := by
  unfold rightB
  rw [if_neg (by omega), if_pos (.inl rfl), decide_eq_true (by omega)]
  simp
/-- A memory of W words a half, filled with objects of these sizes. -/
def stF (W : Nat) (ns : List Nat) : St := ⟨(W : Int), 0, fillOs ns, [], .map []⟩
theorem stF_f (W : Nat) (ns : List Nat) : (stF W ns).f = 1 := by simp [St.f, stF]
def ints (ns : List Nat) : List Int := ns.map (fun (n : Nat) => (n : Int))
structure Goods (W : Nat) (ns : List Nat) : Prop where
  w1 : 64 ≤ W
  w2 : W ≤ 500
  many : ns.length ≤ 100
  each : ∀ n ∈ ns, 1 ≤ n ∧ n ≤ 8
  fit : (flat (fillOs ns)).length ≤ W
def FilledPost (w : World) (e : Ending) (w' : World) : Prop :=
  ∃ (g W : Nat) (ns : List Nat) (va vs : Value), e = .returned (.tuple #[.pointer (some ⟨g, 0, none⟩), va, vs]) ∧ Goods W ns ∧ Fil w w' g (stF W ns) va vs (heads 1 (fillOs ns)) (ints ns)
/-- While the last object is filled. -/
def partSt (W : Nat) (ns : List Nat) (n j : Nat) : St := ⟨(W : Int), 0, fillOs ns ++ [partO ns.length n j], [], .map []⟩
theorem partSt_done (W : Nat) (ns : List Nat) (n : Nat) : partSt W ns n n = stF W (ns ++ [n]) := by
  unfold partSt stF
  rw [fillOs_snoc]
  rfl
theorem part_start {W : Nat} {ns : List Nat} {n : Nat} (F : Fil w0 w g { stF W ns with os := (stF W ns).os ++ [newO 1 n n] } va vs ads ss) : Fil w0 w g (partSt W ns n 0) va vs ads ss := by
  have e : ({ stF W ns with os := (stF W ns).os ++ [newO 1 n n] } : St) = partSt W ns n 0 := by
    unfold partSt stF
    rw [partO_new ns.length n]
  rw [← e]; exact F
theorem part_store {W P : Nat} {ns : List Nat} {n j : Nat} (F : Fil w0 w g (partSt W ns n j) va vs ads ss) (hj : j < n) (hn : n ≤ 8) (hns : ns.length ≤ 100) (hP : (flat (fillOs ns)).length = P) (V : Nat) (hV : V = 100 * ns.length + j) :
    Calls Try.prog 25 #[.pointer (some ⟨g, 0, none⟩), .int .i64 (1 + (P : Int)), .int .i64 j, .int .u64 (V : Int)] w fun e w' => e = .returned (.int .i64 0) ∧ Fil w0 w' g (partSt W ns n (j + 1)) va vs ads ss := by
  subst hV hP
  have hl : (fillOs ns).length = ns.length := fillOs_length ns
  have hi : (fillOs ns).length < (partSt W ns n j).os.length := by show _ < (fillOs ns ++ [partO ns.length n j]).length; simp
  have hg : (partSt W ns n j).os[(fillOs ns).length] = partO ns.length n j := get_last _ _ _
  have hS := F.store (fillOs ns).length j ((100 * ns.length + j : Nat) : Int) hi (by rw [hg, partO_len _ _ _ (by omega)]; exact hj) (by omega)
  have hf : (partSt W ns n j).f = 1 := by simp [St.f, partSt]
  have hp : pos (partSt W ns n j).os (fillOs ns).length = (flat (fillOs ns)).length := pos_last _ _
  have he : ({ partSt W ns n j with os := putO (partSt W ns n j).os (fillOs ns).length j ((100 * ns.length + j : Nat) : Int) } : St) = partSt W ns n (j + 1) := by
    unfold partSt
    simp only
    rw [putO_last, partO_put _ _ _ hj]
  rw [hf, hp, he] at hS
  exact hS
set_option maxHeartbeats 8000000 in
set_option maxRecDepth 100000 in
theorem filled_any (a0 : Int) (A : Option Addr) (c : Nat) (row : List Int) (w : World) (hC : Kd.C (Kd.int .i64) w A row.length row) (hc : row.length ≤ c) :
    Calls Try.prog 23 #[.int .i64 a0, .slice A row.length c] w fun e w' => FilledPost w e w' := by
  obtain ⟨r1, hr1, hr1l⟩ := among_f a0 400 (by decide) (by decide)
  obtain ⟨W, hW⟩ : ∃ W : Nat, 64 + (r1 : Int) = (W : Int) := ⟨64 + r1, by omega⟩
  have hWl : W ≤ 500 := by omega
  have hW0 : 64 ≤ W := by omega
  go_enter Try.func23, Try.ntmps23
  go_wp2_with (first
    | (go_at_call 19; (with_reducible refine (among_any a0 400 r1 _ hr1).mono ?_); rintro e w1 ⟨rfl, ⟨m1, rfl⟩⟩)
    | (go_at_call 20; (with_reducible refine (one_new (W : Int) _ (by omega)).mono ?_); rintro e w2 ⟨g, rfl, M0⟩))
  have F0 : Fil w w2 g (stF W []) (.slice none 0 0) (.slice none 0 0) (heads 1 (fillOs [])) (ints []) := Fil.start M0.base
  have G0 : Goods W [] := ⟨hW0, hWl, by simp, fun n hn => by simp at hn, by simp [fillOs, flat]⟩
  clear M0
  go_loopw [9, 10, 11] (fun va vs i wr => ∃ (k : Nat) (ns : List Nat), i = .int .i64 k ∧ Goods W ns ∧ ns.length = k ∧ k ≤ row.length ∧ Fil w wr g (stF W ns) va vs (heads 1 (fillOs ns)) (ints ns)) (fun _ _ i _ => row.length - (intOf i).toNat)
  case atStart => exact ⟨0, [], rfl, G0, rfl, Nat.zero_le _, F0⟩
  case round =>
    clear F0 G0
    obtain ⟨k, ns, rfl, G, hk, hkl, F⟩ := hrel
    by_cases hk1 : k < row.length
    · have t1 : decide ((k : Int) < (row.length : Int)) = true := decide_eq_true (by omega)
      by_cases hk2 : k < 100
      · have t2 : decide ((k : Int) < 100) = true := decide_eq_true (by omega)
        obtain ⟨ad, rfl, hrd⟩ := Kd.at_int (Kd.C_below hC F.one.1) (k : Int) (by omega) (by omega)
        rw [Int.toNat_natCast] at hrd
        have hi0 : decide (0 ≤ (k : Int)) = true := decide_eq_true (by omega)
        obtain ⟨r2, hr2, hr2l⟩ := among_f (rd row (k : Int)) 8 (by decide) (by decide)
        obtain ⟨n, hn⟩ : ∃ n : Nat, 1 + (r2 : Int) = (n : Int) := ⟨1 + r2, by omega⟩
        have hn0 : 1 ≤ n := by omega
        have hn8 : n ≤ 8 := by omega
        have hfl := fill_flat ns n
        obtain ⟨P, hP⟩ : ∃ P : Nat, (flat (fillOs ns)).length = P := ⟨_, rfl⟩
        by_cases hfit : P + n + 1 ≤ W
        · go_wp2_with (first
            | (go_at_call 19; (with_reducible refine (among_any (rd row (k : Int)) 8 r2 _ hr2).mono ?_); rintro e w3 ⟨rfl, hd3⟩
               have F3 := F.drawn hd3
               have hA : Calls Try.prog 21 #[.pointer (some ⟨g, 0, none⟩), .int .i64 1, .int .i64 n, .int .i64 n] w3 _ := F3.alloc 1 n n (tuple_right n hn0 (by omega)) (by show ((flat (fillOs ns)).length : Int) + n + 1 ≤ (W : Int); omega)
               rw [stF_f, show ((flat (stF W ns).os).length : Int) = (P : Int) from congrArg (fun (z : Nat) => (z : Int)) hP] at hA)
            | (go_at_call 21; (with_reducible refine hA.mono ?_); clear hA; rintro e w4 ⟨rfl, F4⟩
               have F5 := part_start F4
               clear F4 F3 F))
          go_loopw [15] (fun q wq => ∃ j : Nat, q = .int .i64 j ∧ j ≤ n ∧ Fil w wq g (partSt W ns n j) u9 u10 (heads 1 (fillOs ns)) (ints ns)) (fun q _ => n - (intOf q).toNat)
          case atStart => exact ⟨0, rfl, Nat.zero_le _, F5⟩
          case round =>
            clear F5
            obtain ⟨j, rfl, hj, F6⟩ := hrel
            by_cases hjn : j < n
            · have t3 : decide ((j : Int) < (n : Int)) = true := decide_eq_true (by omega)
              obtain ⟨V, hV⟩ : ∃ V : Nat, V = 100 * ns.length + j := ⟨_, rfl⟩
              have hU : 100 * (k : Int) + (j : Int) = (V : Int) := by omega
              have hU2 : (V : Int) % 18446744073709551616 = (V : Int) := by omega
              have hS := part_store F6 hjn hn8 (by omega) hP V hV
              clear hV
              go_wp2_with (first
                | (go_at_call 25; (with_reducible refine hS.mono ?_); clear hS; rintro e w7 ⟨rfl, F7⟩))
              go_roundw
              case rel => exact ⟨j + 1, by simp, by omega, F7⟩
              case measure => simp [intOf]; omega
            · obtain rfl : j = n := by omega
              have t3 : decide ((j : Int) < (j : Int)) = false := decide_eq_false (by omega)
              rw [partSt_done] at F6
              have hra := F6.ra
              have hln := heads_length 1 (fillOs ns)
              have hfl2 := fillOs_length ns
              have hiln : (ints ns).length = ns.length := by simp [ints]
              have hG := G.many
              go_wp2_with (first
                | ((with_reducible refine gate_builtin (b := .append) (xs := #[.tmp 64, .tmp 66]) rfl ?_); at_builtin; refine Kd.R_append (Kd.int .i64) 0 rfl (.tmp 64) (.tmp 66) 38 3 (.int .i64 0) 8 rfl Try.underlying38 info3 rfl (by decide) (by omega) u9 (heads 1 (fillOs ns)) (1 + (P : Int)) [.int .i64 (1 + (P : Int))] (fun _ => True) (fun _ => False) rfl rfl rfl (fun _ hk => hk.elim) (fun _ _ => trivial) hra (Below.refl _ _) (Nat.zero_le _) (by omega) ?_; intro v8 w8 ho8 hbel8 hg8 hat8
                   have F8 := F6.pushA ho8 hg8 hat8
                   have hrs := F8.rs
                   clear hra F6)
                | ((with_reducible refine gate_builtin (b := .append) (xs := #[.tmp 68, .tmp 70]) rfl ?_); at_builtin; refine Kd.R_append (Kd.int .i64) 0 rfl (.tmp 68) (.tmp 70) 38 3 (.int .i64 0) 8 rfl Try.underlying38 info3 rfl (by decide) (by omega) u10 (ints ns) (j : Int) [.int .i64 (j : Int)] (fun _ => True) (fun _ => False) rfl rfl rfl (fun _ hk => hk.elim) (fun _ _ => trivial) hrs (Below.refl _ _) (Nat.zero_le _) (by omega) ?_; intro v9 w9 ho9 hbel9 hg9 hat9
                   have F9 := F8.pushS ho9 hg9 hat9
                   clear hrs F8))
              go_roundw
              case rel =>
                refine ⟨k + 1, ns ++ [j], by simp, ⟨hW0, hWl, by simp; omega, fun m hm => ?_, by rw [fill_flat]; omega⟩, by simp [hk], by omega, ?_⟩
                · rw [List.mem_append, List.mem_singleton] at hm
                  rcases hm with hm | rfl
                  · exact G.each m hm
                  · exact ⟨hn0, hn8⟩
                · rw [show heads 1 (fillOs (ns ++ [j])) = heads 1 (fillOs ns) ++ [1 + (P : Int)] by rw [fillOs_snoc, heads_append, hP], show ints (ns ++ [j]) = ints ns ++ [(j : Int)] by simp [ints]]
                  exact F9
              case measure => simp [intOf]; omega
        · go_wp2_with (first
            | (go_at_call 19; (with_reducible refine (among_any (rd row (k : Int)) 8 r2 _ hr2).mono ?_); rintro e w3 ⟨rfl, hd3⟩
               have F3 := F.drawn hd3
               have hA : Calls Try.prog 21 #[.pointer (some ⟨g, 0, none⟩), .int .i64 1, .int .i64 n, .int .i64 n] w3 _ := F3.one.2.alloc_full 1 n n (tuple_right n hn0 (by omega)) (by show (W : Int) < ((flat (fillOs ns)).length : Int) + n + 1; omega))
            | (go_at_call 21; (with_reducible refine hA.mono ?_); clear hA; rintro e w4 ⟨rfl, hd4⟩
               have F4 := F3.drawn hd4))
          go_ret3
          exact ⟨g, W, ns, _, _, rfl, G, F4⟩
      · have t2 : decide ((k : Int) < 100) = false := decide_eq_false (by omega)
        go_wp2_with fail
        go_ret3
        exact ⟨g, W, ns, _, _, rfl, G, F⟩
    · have t1 : decide ((k : Int) < (row.length : Int)) = false := decide_eq_false (by omega)
      go_wp2_with fail
      go_ret3
      exact ⟨g, W, ns, _, _, rfl, G, F⟩
end Go.Proofs.Ytaliolnndbnfhaa.Mem
