/- The document's memory, made of a list of objects. -/
import Derived.Test.YtjccaojlldkmpaaRm5
import Derived.Test.YtjccaojlldkmpaaGB
namespace Go.Proofs.Ytjccaojlldkmpaa.Rm
open Go.RowKit Go.Proofs.YtjccaojlldkmpaaW.PrintWords Go.Proofs.YtjccaojlldkmpaaW.PrintLast Go.Proofs.YtjccaojlldkmpaaW.PrintMore
open Mem
open Hf (rightB right_parts)
open Pa (S71 k71 z71 rd_T71 at_T71 S87 k87)
set_option linter.unusedSimpArgs false
set_option linter.unusedVariables false
set_option maxRecDepth 100000
variable {S : Nat → Prop} {w w' W : World} {g c : Nat} {vn vo v : Value} {rs : RS} {l : List P5}
/-- The only memory of the document's in a run. -/
def OneD (w0 w : World) (g : Nat) (N : Int) (os : List O) : Prop := Below w0.heap.size w0 w ∧ Doc (fun k => w0.heap.size ≤ k) w g N 0 os [] nowhere
theorem OneD.drawn {w0 : World} {N : Int} {os : List O} (M : OneD w0 w g N os) (hd : Drawn0 w w') : OneD w0 w' g N os := ⟨below_step M.1 hd.below, M.2.drawn hd⟩
theorem OneD.same {w0 : World} {N : Int} {os : List O} (M : OneD w0 w g N os) (hd : Below w.heap.size w w') : OneD w0 w' g N os := ⟨below_step M.1 hd, M.2.below hd⟩
theorem OneD.of {w0 : World} {N : Int} {os os' : List O} (M : OneD w0 w g N os) {T : Nat → Prop} (D : Doc T w' g N 0 os' [] nowhere) (fr : Fr (fun k => w0.heap.size ≤ k) w w') (hT : ∀ k, T k → w0.heap.size ≤ k) : OneD w0 w' g N os' :=
  ⟨below_fr M.1 fr (fun k h => h), D.more hT⟩
theorem OneD.alloc {w0 : World} {N : Int} {os : List O} (M : OneD w0 w g N os) (k : Int) (n q : Nat) (hr : rightB k n q = true) (hfree : ((flat os).length : Int) + n + 1 ≤ N) :
    Calls Try.prog 47 #[.pointer (some ⟨g, 0, none⟩), .int .i64 k, .int .i64 n, .int .i64 q] w fun e w' => e = .returned (.tuple #[.int .i64 (1 + ((flat os).length : Int)), .int .i64 0]) ∧ OneD w0 w' g N (os ++ [newO k n q]) := by
  refine (M.2.alloc k n q hr hfree).mono ?_
  rintro e w' ⟨rfl, D, fr⟩
  refine ⟨by rw [Int.zero_mul, Int.add_zero], M.of D fr (fun k h => ?_)⟩
  rcases h with h | h
  · exact h
  · exact Nat.le_trans M.1.size h
theorem OneD.store {w0 : World} {N : Int} {os : List O} (M : OneD w0 w g N os) (k i : Nat) (x : Int) (hk : k < os.length) (hi : i < os[k].fs.length) :
    Calls Try.prog 48 #[.pointer (some ⟨g, 0, none⟩), .int .i64 (1 + (pos os k : Int)), .int .i64 (i : Int), .int .u64 x] w fun e w' => e = .returned (.int .i64 0) ∧ OneD w0 w' g N (putO os k i x) := by
  have h := M.2.store k i x hk hi
  rw [Int.zero_mul, Int.add_zero] at h
  refine h.mono ?_
  rintro e w' ⟨rfl, D, fr⟩
  exact ⟨rfl, M.of D fr (fun k h => h)⟩
theorem one_doc (N : Int) (h : 64 ≤ N ∧ N ≤ 65536) {w0 : World} (hb : Below w0.heap.size w0 w) : OneD w0 (w.alloc (.cells #[.int .i64 N, .int .i64 0, .slice none 0 0, .slice none 0 0] 30)) w.heap.size N [] :=
  ⟨below_alloc hb _, .slice none 0 0, .slice none 0 0, ⟨N, 0, [], []⟩, ⟨blk_new w _, Kd.R_nil _ _ _ _ _, Kd.R_nil _ _ _ _ _, fun k hk => by simp [Value.ownBlock] at hk, List.Pairwise.nil, hb.size, fun k hk => by simp [Value.ownBlock] at hk, fun k hk => by simp [Value.ownBlock] at hk, fun p hp => by cases hp⟩,
    rfl, rfl, rfl, rfl, h, .inl rfl, by simp [flat]; omega, by simp [flat]; omega⟩
set_option maxHeartbeats 8000000 in
theorem made_doc (wv : Nat → Nat → Int) (A : Option Addr) (c : Nat) (l : List S71) (N : Int) (hC : Kd.C k71 w A l.length l) (hc : l.length ≤ c) (G : Gl wv l N) :
    Calls Try.prog 16 #[.slice A l.length c, .int .i64 N] w fun e W => ∃ g vn vo rs, e = .returned (.agg #[.int .i64 N, .int .i64 0, vn, vo]) ∧ Below w.heap.size w W ∧ DocL (fun k => w.heap.size ≤ k) W g vn vo rs N 0 (full wv l) [] nowhere := by
  have hr : ∀ o ∈ l, 0 ≤ o.f1 ∧ o.f1 ≤ o.f2.length := fun o ho => by
    obtain ⟨p1, p2, p3, p4, p5, p6⟩ := Hf.right_parts (G.r o ho)
    exact ⟨p5, p6⟩
  have hN := G.n
  have hfit := G.fit
  have hlen := G.len
  have hu71 := Try.underlying71
  have hu30 := Try.underlying30
  have hbw0 := below_alloc (Below.refl _ w) (.cells #[.int .i64 0, .int .i64 0, .slice none 0 0, .slice none 0 0] 30)
  go_enter Try.func16, Try.ntmps16
  have hb4 : (w.alloc (.cells #[.int .i64 0, .int .i64 0, .slice none 0 0, .slice none 0 0] 30)).heap[w.heap.size]? = some (.cells #[.int .i64 0, .int .i64 0, .slice none 0 0, .slice none 0 0] 30 (0, 0)) := blk_new w _
  have hC4 := Kd.C_below hC hbw0
  go_wp2_with (first
    | (go_at_call 46; (with_reducible refine (new_any N hN _).mono ?_); rintro e w2 ⟨rfl, hb2⟩
       have M0 := one_doc (w := w2) N hN hb2))
  generalize hw4 : w.alloc (.cells #[.int .i64 0, .int .i64 0, .slice none 0 0, .slice none 0 0] 30) = w4 at *
  clear hC hw4
  generalize w2.alloc (.cells #[.int .i64 N, .int .i64 0, .slice none 0 0, .slice none 0 0] 30) = w3 at M0 ⊢
  generalize w2.heap.size = g at M0 ⊢
  clear hb2
  go_loopw [7] (fun i wr => ∃ k : Nat, k ≤ l.length ∧ i = .int .i64 (k : Int) ∧ OneD w4 wr g N ((l.take k).map nw)) (fun i _ => l.length - (intOf i).toNat)
  case atStart => exact ⟨0, Nat.zero_le _, rfl, M0⟩
  case round =>
    clear M0
    obtain ⟨k, hk, rfl, M⟩ := hrel
    by_cases hk1 : k < l.length
    · have t1 : decide ((k : Int) < (l.length : Int)) = true := decide_eq_true (by omega)
      have t0 : decide (0 ≤ (k : Int)) = true := decide_eq_true (by omega)
      obtain ⟨ad, A2, c2, rfl, hS⟩ := cells3 hC4 k hk1
      obtain ⟨q, hq⟩ : ∃ q : Nat, l[k].f1 = (q : Int) := ⟨l[k].f1.toNat, by have := hr _ (List.getElem_mem hk1); omega⟩
      have hrt := G.r _ (List.getElem_mem hk1)
      have hal := adr_mono l (k + 1) (l.length - (k + 1))
      rw [show k + 1 + (l.length - (k + 1)) = l.length by omega, adr_succ l k hk1] at hal
      have hfl : (flat ((l.take k).map nw)).length = adr l k := by
        rw [flat_adr (l := l.take k) (by rw [List.map_map]; apply List.map_congr_left; intro o ho; exact newO_len _ _ _ (by have := hr o (List.mem_of_mem_take ho); omega))]
        unfold adr
        rw [List.take_take, List.length_take, show min (min k l.length) k = k by omega]
      have hst : (l.take k).map nw ++ [newO l[k].f0 l[k].f2.length q] = (l.take (k + 1)).map nw := by
        rw [List.take_succ_eq_append_getElem hk1, List.map_append, List.map_cons, List.map_nil]
        unfold nw
        rw [hq, Int.toNat_natCast]
      have hAl : ∀ W, Drawn0 wr W → Calls Try.prog 47 #[.pointer (some ⟨g, 0, none⟩), .int .i64 l[k].f0, .int .i64 (l[k].f2.length : Int), .int .i64 (q : Int)] W fun e w' => e = .returned (.tuple #[.int .i64 (1 + (adr l k : Int)), .int .i64 0]) ∧ OneD w4 w' g N ((l.take (k + 1)).map nw) := by
        intro W hd
        have h := (M.drawn hd).alloc l[k].f0 l[k].f2.length q (by rw [← hq]; exact hrt) (by rw [hfl]; omega)
        rw [hfl, hst] at h
        exact h
      rw [hq] at hS
      have hAt : ∀ W, Below w4.heap.size w4 W → Calls Try.prog 43 #[.slice (some ad) l.length c, .int .i64 (k : Int)] W fun e w' => e = .returned (.int .i64 (1 + (adr l k : Int))) ∧ Drawn0 W w' := fun W hb =>
        Pa.kindlingref04_At.calls (k + 1 + 0) (some ad) c l (k : Int) _ W (Kd.C_below hC4 hb) hc (at_f l k 0 hk (by omega) (by omega))
      have hS1 := hS wr M.1
      have hSd := hS wr.drew (below_drew M.1)
      generalize l[k].f0 = kd at hS hAl hS1 hSd
      generalize l[k].f2.length = nn at hS hAl hS1 hSd
      generalize hO2 : (l.take (k + 1)).map nw = os2 at hAl
      obtain ⟨aa, hAA⟩ : ∃ aa, (1 : Int) + (adr l k : Int) = aa := ⟨_, rfl⟩
      rw [hAA] at hAl hAt
      have hM1 := M.1
      replace hO2 := Aside0.mk hO2
      clear hst hrt hq hal hfl hAA M hr hfit
      unfold Cells3 at hS1 hSd
      go_wp2_with fail
      go_region_held3 (fun W' => W'.cell? (ad.add (k * 4)) = some (.int .i64 kd) ∧ W'.cell? ⟨(ad.add (k * 4)).block, (ad.add (k * 4)).off + 1, none⟩ = some (.int .i64 q) ∧ W'.cell? ⟨(ad.add (k * 4)).block, (ad.add (k * 4)).off + 2, none⟩ = some (.slice A2 nn c2))
        (first | (with_reducible exact hS1) | (with_reducible exact hSd) | (with_reducible exact hS5))
        (first
          | (go_at_call 47; (with_reducible refine Calls.mono (hAl _ ⟨1, rfl⟩) ?_); rintro e w5 ⟨rfl, M5⟩; have hS5 := hS w5 M5.1; unfold Cells3 at hS5))
      go_wp2_with fail
      go_roundw
      case rel => exact ⟨k + 1, by omega, by simp, hO2.out ▸ M5⟩
      case measure => simp [intOf]; omega
    · obtain rfl : k = l.length := by omega
      have t1 : decide (((l.length : Nat) : Int) < (l.length : Int)) = false := decide_eq_false (by omega)
      rw [List.take_length, sto_zero wv l hr] at M
      go_wp2_with fail
      go_loopw [8] (fun i wr => ∃ k : Nat, k ≤ l.length ∧ i = .int .i64 (k : Int) ∧ OneD w4 wr g N (sto wv l k 0)) (fun i _ => l.length - (intOf i).toNat)
      case atStart => exact ⟨0, Nat.zero_le _, rfl, M⟩
      case round =>
        clear M hk hk1 t1
        obtain ⟨k, hk, rfl, M⟩ := hrel
        by_cases hk1 : k < l.length
        · have t1 : decide ((k : Int) < (l.length : Int)) = true := decide_eq_true (by omega)
          have t0 : decide (0 ≤ (k : Int)) = true := decide_eq_true (by omega)
          have hnl : l[k].f2.length ≤ 16384 := by
            obtain ⟨p1, p2, p3, p4, p5, p6⟩ := Hf.right_parts (G.r _ (List.getElem_mem hk1))
            omega
          have hal := adr_mono l (k + 1) (l.length - (k + 1))
          rw [show k + 1 + (l.length - (k + 1)) = l.length by omega, adr_succ l k hk1] at hal
          obtain ⟨ad, A2, c2, rfl, hS⟩ := cells3 hC4 k hk1
          obtain ⟨nn, hnn⟩ : ∃ nn, l[k].f2.length = nn := ⟨_, rfl⟩
          rw [hnn] at hS hnl hal
          have hAt : ∀ W, Below w4.heap.size w4 W → Calls Try.prog 43 #[.slice (some ad) l.length c, .int .i64 (k : Int)] W fun e w' => e = .returned (.int .i64 (1 + (adr l k : Int))) ∧ Drawn0 W w' := fun W hb =>
            Pa.kindlingref04_At.calls (k + 1 + 0) (some ad) c l (k : Int) _ W (Kd.C_below hC4 hb) hc (at_f l k 0 hk (by omega) (by omega))
          have hWd : ∀ W (j : Nat), j < nn → Below w4.heap.size w4 W → Calls Try.prog 45 #[.slice (some ad) l.length c, .int .i64 (k : Int), .int .i64 (j : Int)] W fun e w' => e = .returned (.int .u64 (wv k j)) ∧ Below W.heap.size W w' := fun W j hj hb => by
            obtain ⟨m, hm⟩ := G.wd k hk1 j (by rw [hnn]; exact hj)
            exact Pa.kindlingref04_Word.calls m (some ad) c l (k : Int) (j : Int) _ W (Kd.C_below hC4 hb) hc hm
          have hSt : ∀ W (j : Nat), j < nn → OneD w4 W g N (sto wv l k j) → Calls Try.prog 48 #[.pointer (some ⟨g, 0, none⟩), .int .i64 (1 + (adr l k : Int)), .int .i64 (j : Int), .int .u64 (wv k j)] W fun e w' => e = .returned (.int .i64 0) ∧ OneD w4 w' g N (sto wv l k (j + 1)) := fun W j hj M => by
            have hks : k < (sto wv l k j).length := by rw [sto_length]; exact hk1
            have hfl : (sto wv l k j)[k].fs.length = nn := by rw [sto_get wv l k j k hks hk1, ← hnn]; simp
            have h := M.store k j (wv k j) hks (by rw [hfl]; exact hj)
            rw [pos_adr (sto_lens wv l k j), sto_put wv l k j hk1 (by rw [hnn]; exact hj)] at h
            exact h
          have hdn := sto_done wv l k hk1
          rw [hnn] at hdn
          have hNN := Aside0.mk hnn
          have hDN := Aside0.mk hdn
          obtain ⟨aa, hAA⟩ : ∃ aa, (1 : Int) + (adr l k : Int) = aa := ⟨_, rfl⟩
          rw [hAA] at hAt hSt
          clear hnn hdn hAA hal hfit
          go_wp2_with fail
          go_loopw [9] (fun i wr => ∃ j : Nat, j ≤ nn ∧ i = .int .i64 (j : Int) ∧ OneD w4 wr g N (sto wv l k j)) (fun i _ => nn - (intOf i).toNat)
          case atStart => exact ⟨0, Nat.zero_le _, rfl, M⟩
          case round =>
            clear M
            obtain ⟨j, hj, rfl, M⟩ := hrel
            obtain ⟨hS1, hS2, hS3⟩ := hS _ M.1
            have hB4 := M.1
            by_cases hj1 : j < nn
            · have t2 : decide ((j : Int) < (nn : Int)) = true := decide_eq_true (by omega)
              go_wp2_with (first
                | (go_at_call 43; (with_reducible refine (hAt _ hB4).mono ?_); rintro e w6 ⟨rfl, hd6⟩
                   have M6 := M.drawn hd6
                   have hB6 := M6.1)
                | (go_at_call 45; (with_reducible refine (hWd _ j hj1 hB6).mono ?_); rintro e w7 ⟨rfl, hb7⟩
                   have M7 := M6.same hb7)
                | (go_at_call 48; (with_reducible refine (hSt _ j hj1 M7).mono ?_); rintro e w8 ⟨rfl, M8⟩))
              go_roundw
              case rel => exact ⟨j + 1, by omega, by simp, M8⟩
              case measure => simp [intOf]; omega
            · obtain rfl : j = nn := by omega
              have t2 : decide ((j : Int) < (j : Int)) = false := decide_eq_false (by omega)
              go_wp2_with fail
              go_roundw
              case rel => exact ⟨k + 1, by omega, by simp, hDN.out ▸ M⟩
              case measure => simp [intOf]; omega
        · obtain rfl : k = l.length := by omega
          have t1 : decide (((l.length : Nat) : Int) < (l.length : Int)) = false := decide_eq_false (by omega)
          obtain ⟨hbe, vn, vo, rs, D⟩ := M
          have hb4e := blk_below hb4 hbe
          have e0 : wr.cell? ⟨g, 0, none⟩ = some (.int .i64 N) := by rw [← D.sz]; exact (blk_cell D.lies.blk 0).trans rfl
          have e1 : wr.cell? ⟨g, 1, none⟩ = some (.int .i64 0) := by rw [← D.hf]; exact (blk_cell D.lies.blk 1).trans rfl
          have e2 : wr.cell? ⟨g, 2, none⟩ = some vn := (blk_cell D.lies.blk 2).trans rfl
          have e3 : wr.cell? ⟨g, 3, none⟩ = some vo := (blk_cell D.lies.blk 3).trans rfl
          obtain ⟨An, cn, rfl⟩ := D.lies.now.slice
          obtain ⟨Ao, co, rfl⟩ := D.lies.old.slice
          have r0 : wr.cell? ⟨w.heap.size, 0, none⟩ = some (.int .i64 0) := (blk_cell hb4e 0).trans rfl
          have r1 : wr.cell? ⟨w.heap.size, 1, none⟩ = some (.int .i64 0) := (blk_cell hb4e 1).trans rfl
          have r2 : wr.cell? ⟨w.heap.size, 2, none⟩ = some (.slice none 0 0) := (blk_cell hb4e 2).trans rfl
          have r3 : wr.cell? ⟨w.heap.size, 3, none⟩ = some (.slice none 0 0) := (blk_cell hb4e 3).trans rfl
          have y0 := blk_frozen hb4e 0
          have y1 := blk_frozen hb4e 1
          have y2 := blk_frozen hb4e 2
          have y3 := blk_frozen hb4e 3
          go_wp2_with fail
          have hb5 := blk_put (blk_put (blk_put (blk_put hb4e 0 (.int .i64 N) rfl) 1 (.int .i64 0) rfl) 2 (.slice An rs.now.length cn) rfl) 3 (.slice Ao rs.old.length co) rfl
          have fr5 := (((Fr.setg wr w.heap.size 0 (.int .i64 N)).trans (Fr.setg _ w.heap.size 1 (.int .i64 0))).trans (Fr.setg _ w.heap.size 2 (.slice An rs.now.length cn))).trans (Fr.setg _ w.heap.size 3 (.slice Ao rs.old.length co))
          have hlt4 := blk_lt hb4
          refine bodyPost_ret (results_cell_row rfl _ _ w.heap.size 30 _ (0, 0) _ rfl hb5 Try.underlying30 rfl (by kernel_rfl)) rfl ?_
          exact ⟨g, _, _, rs, rfl, below_fr (below_step hbw0 hbe) fr5 (fun k h => by omega), { D with lies := (D.lies.keep fr5 (fun k h e => by omega)).more (fun k h => by omega) }⟩
/-- A memory that was handed over by value, in a box of its own. -/
theorem DocL.rebox {size half : Int} {os olds : List O} {tz : Nat → Int} (D : DocL S w g vn vo rs size half os olds tz) : DocL (fun k => S k ∨ w.heap.size ≤ k) (w.alloc (.cells #[.int .i64 size, .int .i64 half, vn, vo] 30)) w.heap.size vn vo rs size half os olds tz := by
  have L := D.lies.keep (T := fun _ => False) (Fr.of_below (below_alloc (Below.refl _ w) (.cells #[.int .i64 size, .int .i64 half, vn, vo] 30))) (fun _ _ h => h)
  refine { D with lies := ⟨?_, L.now, L.old, L.ap, L.pd, .inr (Nat.le_refl _), fun k hk => .inl (L.sn k hk), fun k hk => .inl (L.so k hk), fun p hp k hk => .inl (L.sw p hp k hk)⟩ }
  rw [D.sz, D.hf]
  exact blk_new w _
end Go.Proofs.Ytjccaojlldkmpaa.Rm
