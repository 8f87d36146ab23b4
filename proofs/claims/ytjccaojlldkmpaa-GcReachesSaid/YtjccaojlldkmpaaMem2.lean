/- What put does: words and their address behind the others. -/
import Derived.Test.YtjccaojlldkmpaaMem1
import Derived.Test.YtjccaojlldkmpaaWMore
import Derived.Test.YtjccaojlldkmpaaWGuard
import Derived.OwnWalk
import Derived.Test.YtjccaojlldkmpaaWRepsOne
namespace Go.Proofs.Ytjccaojlldkmpaa.Mem
open Go.RowKit Go.Proofs.YtjccaojlldkmpaaW.PrintWords
set_option linter.unusedSimpArgs false
set_option linter.unusedVariables false
/-- Of what was there nothing has turned but what S names. -/
structure Fr (S : Nat → Prop) (w w' : World) : Prop where
  low : Below 0 w w'
  same : ∀ k, k < w.heap.size → ¬ S k → w'.heap[k]? = w.heap[k]?
theorem Fr.refl (S : Nat → Prop) (w : World) : Fr S w w := ⟨Below.refl _ _, fun _ _ _ => rfl⟩
theorem Fr.trans {S : Nat → Prop} {x y z : World} (h : Fr S x y) (k : Fr S y z) : Fr S x z :=
  ⟨h.low.trans k.low, fun i hi hs => (k.same i (Nat.lt_of_lt_of_le hi h.low.size) hs).trans (h.same i hi hs)⟩
theorem Fr.mono {S T : Nat → Prop} {x y : World} (h : Fr S x y) (hs : ∀ k, k < x.heap.size → S k → T k) : Fr T x y :=
  ⟨h.low, fun i hi ht => h.same i hi (fun hk => ht (hs i hi hk))⟩
theorem Fr.of_below {S : Nat → Prop} {x y : World} (h : Below x.heap.size x y) : Fr S x y := ⟨h.mono (Nat.zero_le _), fun i hi _ => h.block i hi⟩
theorem Fr.of_grown {S : Nat → Prop} {x y : World} {row : Option Nat} (h : x.grownBy y row) (hs : ∀ k, row = some k → S k) : Fr S x y :=
  ⟨⟨h.os, h.tape, h.output, h.size, fun k hk => absurd hk (Nat.not_lt_zero k)⟩, fun i hi ht => h.block i hi (fun e => ht (hs i e.symm))⟩
theorem Fr.of_drawn {S : Nat → Prop} {x y : World} (h : Drawn0 x y) : Fr S x y := Fr.of_below h.below
theorem Fr.of_set {S : Nat → Prop} (x : World) (a : Addr) (v : Value) (hs : S a.block) : Fr S x (x.setCell a v) :=
  ⟨(Below.refl 0 x).setCell (Nat.zero_le _) v, fun i _ ht => Below.heap_setCell _ _ _ i (fun e => ht (e ▸ hs))⟩

/-- A row of whole numbers. -/
abbrev Ws (w : World) (v : Value) (xs : List Int) : Prop := (Kd.int .u64).R 56 w 0 (fun _ => True) v xs
abbrev Hs (w : World) (v : Value) (xs : List Int) : Prop := (Kd.int .i64).R 3 w 0 (fun _ => True) v xs
/-- The row that was there, or a new one. -/
def At (w : World) (v v' : Value) : Prop := v'.ownBlock = v.ownBlock ∨ ∃ b, v'.ownBlock = some b ∧ w.heap.size ≤ b

/-- Behind 'put': the two rows have grown. -/
def PutPost (w : World) (g : Nat) (size half f f2 : Int) (ow oh mv vw vh : Value) (ws hs xs : List Int) (e : Ending) (w' : World) : Prop :=
  e = .returned (.int .i64 (f + ws.length)) ∧ ∃ vw' vh', w'.heap[g]? = some (.cells (cellsOf size half f vw' vh' f2 ow oh mv) 96 (0, 0)) ∧
    Ws w' vw' (ws ++ xs) ∧ Hs w' vh' (hs ++ [f + ws.length]) ∧ At w vw vw' ∧ At w vh vh' ∧ Fr (fun k => k = g ∨ vw.ownBlock = some k ∨ vh.ownBlock = some k) w w'

theorem info22 : (Try.prog.info? 56).map (fun i => (i.zero, i.size, i.bytes)) = some (some (.int .u64 0), 1, 8) := by kernel_rfl
theorem info3 : (Try.prog.info? 3).map (fun i => (i.zero, i.size, i.bytes)) = some (some (.int .i64 0), 1, 8) := by kernel_rfl
theorem addr_set (w : World) (a : Addr) (v : Value) : Value.slice (some ⟨w.heap.size, 0, none⟩) 1 1 = Value.slice (some ⟨(w.setCell a v).heap.size, 0, none⟩) 1 1 := by
  have h : (w.setCell a v).heap.size = w.heap.size := by simp
  rw [h]
set_option maxHeartbeats 4000000 in
set_option maxRecDepth 100000 in
theorem put_any (w : World) (g : Nat) (size half f f2 : Int) (ow oh mv vh : Value) (a : Option Addr) (len cap : Nat) (A : Option Addr) (m c : Nat) (ws hs xs : List Int)
    (hf : 0 ≤ f ∧ f ≤ 200000) (hl : len ≤ 65536) (hm : ws.length + m ≤ 70000) (hh : hs.length ≤ 70000)
    (hb : w.heap[g]? = some (.cells (cellsOf size half f (.slice a len cap) vh f2 ow oh mv) 96 (0, 0)))
    (HW : Ws w (.slice a len cap) ws) (HH : Hs w vh hs) (HA : (Kd.int .u64).C w A m xs) :
    Calls Try.prog 72 #[.pointer (some ⟨g, 0, none⟩), .slice A m c] w fun e w' => PutPost w g size half f f2 ow oh mv (.slice a len cap) vh ws hs xs e w' := by
  have hc3 : w.cell? ⟨g, 3, none⟩ = some (.slice a len cap) := (blk_cell hb 3).trans rfl
  have hc4 : w.cell? ⟨g, 4, none⟩ = some vh := (blk_cell hb 4).trans rfl
  have hz3 := blk_frozen hb 3
  have hz4 := blk_frozen hb 4
  have hlen : ws.length = len := by have := (Kd.R_reads' HW).1; omega
  go_enter Try.func72, Try.ntmps72
  have hgw : some g ≠ (Value.slice a len cap).ownBlock := Kd.R_ne HW hb (by decide)
  have hgh : some g ≠ vh.ownBlock := Kd.R_ne HH hb (by decide)
  go_wp2_with (first
    | (go_at_call 60; (with_reducible refine (next_any _ g size half f f2 vh ow oh mv a len cap hl hf hb).mono ?_); rintro e w1 ⟨rfl, ⟨m1, rfl⟩⟩)
    | ((with_reducible refine gate_builtin (b := .append) (xs := #[.tmp 13, .tmp 14]) rfl ?_); at_builtin; refine Kd.R_append_row (Value.int .u64) (0 : Int) (h1 := fun _ => rfl) (w0 := w) 0 rfl (.tmp 13) (.tmp 14) 32 56 (.int .u64 0) 8 rfl Try.underlying32 info22 rfl (by decide) (.slice a len cap) ws xs A m c (fun _ => True) rfl rfl (fun _ _ => trivial) (Kd.R_drewN HW m1) (Kd.C_below HA (pw_below_drewN (Below.refl _ _) _)) (pw_below_drewN (Below.refl _ _) _) (Nat.zero_le _) (by omega) ?_; intro v1 w2 ho2 hbel2 hg2 hat2; obtain ⟨a1, c1, rfl⟩ := Kd.R_slice ho2; obtain ⟨n1, hn1⟩ : ∃ n1 : Nat, (ws ++ xs).length = n1 := ⟨_, rfl⟩; rw [hn1] at ho2 hat2 ⊢
       have hb2 := blk_grown (blk_drewN hb m1) hg2 hgw
       have HH2 := Kd.R_over (Kd.R_drewN HH m1) (Kd.R_drewN HW m1) (by intro q hq; simp [Kd.int, Kd.scalar] at hq; omega) hg2
       have hc3' : w2.cell? ⟨g, 3, none⟩ = some (.slice a len cap) := (blk_cell hb2 3).trans rfl
       have hz3' := blk_frozen hb2 3
       have hb3 : (w2.setCell ⟨g, 3, none⟩ (.slice a1 n1 c1)).heap[g]? = some (.cells (cellsOf size half f (.slice a1 n1 c1) vh f2 ow oh mv) 96 (0, 0)) := blk_put hb2 3 _ rfl
       have HW3 := Kd.R_set ho2 hb2 (by intro q hq; simp [Kd.int, Kd.scalar] at hq; omega) 3 (.slice a1 n1 c1)
       have HH3 := Kd.R_set HH2 hb2 (by intro q hq; simp [Kd.int, Kd.scalar] at hq; omega) 3 (.slice a1 n1 c1)
       have fr3 : Fr (fun k => k = g ∨ (Value.slice a len cap).ownBlock = some k ∨ vh.ownBlock = some k) w (w2.setCell ⟨g, 3, none⟩ (.slice a1 n1 c1)) := ((Fr.of_drawn ⟨m1, rfl⟩).trans (Fr.of_grown hg2 (fun k hk => .inr (.inl hk)))).trans (Fr.of_set w2 ⟨g, 3, none⟩ _ (.inl rfl))
       have hc4' : (w2.setCell ⟨g, 3, none⟩ (.slice a1 n1 c1)).cell? ⟨g, 4, none⟩ = some vh := (blk_cell hb3 4).trans rfl)
    | ((with_reducible refine gate_builtin (b := .append) (xs := #[.tmp 24, .tmp 26]) rfl ?_); at_builtin; refine Kd.R_append (Kd.int .i64) (w0 := w) 0 rfl (.tmp 24) (.tmp 26) 23 3 (.int .i64 0) 8 rfl Try.underlying23 info3 rfl (by decide) (by omega) vh hs (f + len) [.int .i64 (f + len)] (fun _ => True) (fun _ => False) rfl (addr_set w2 _ _) rfl (fun _ hk => hk.elim) (fun _ _ => trivial) HH3 fr3.low (Nat.zero_le _) (by omega) ?_; intro v4 w4 ho4 hbel4 hg4 hat4
       obtain ⟨a4, c4, rfl⟩ := Kd.R_slice ho4; obtain ⟨n4, hn4⟩ : ∃ n4 : Nat, (hs ++ [f + (len : Int)]).length = n4 := ⟨_, rfl⟩; rw [hn4] at ho4 hat4 ⊢
       have hb4 := blk_grown hb3 hg4 hgh
       have HW4 := Kd.R_over HW3 HH3 (by intro q hq; simp [Kd.int, Kd.scalar] at hq; omega) hg4
       have hc4'' : w4.cell? ⟨g, 4, none⟩ = some vh := (blk_cell hb4 4).trans rfl
       have hz4'' := blk_frozen hb4 4
       have hb5 : (w4.setCell ⟨g, 4, none⟩ (.slice a4 n4 c4)).heap[g]? = some (.cells (cellsOf size half f (.slice a1 n1 c1) (.slice a4 n4 c4) f2 ow oh mv) 96 (0, 0)) := blk_put hb4 4 _ rfl
       have HW5 := Kd.R_set HW4 hb4 (by intro q hq; simp [Kd.int, Kd.scalar] at hq; omega) 4 (.slice a4 n4 c4)
       have HH5 := Kd.R_set ho4 hb4 (by intro q hq; simp [Kd.int, Kd.scalar] at hq; omega) 4 (.slice a4 n4 c4)
       have fr5 := (fr3.trans (Fr.of_grown hg4 (fun k hk => .inr (.inr hk)))).trans (Fr.of_set w4 ⟨g, 4, none⟩ (.slice a4 n4 c4) (.inl rfl))))
  go_ret
  refine ⟨by rw [hlen]; rfl, _, _, hb5, HW5, by rw [hlen]; exact HH5, hat2, ?_, fr5⟩
  rcases hat4 with h | ⟨b, h, hbb⟩
  · exact .inl h
  · exact .inr ⟨b, h, Nat.le_trans fr3.low.size hbb⟩
end Go.Proofs.Ytjccaojlldkmpaa.Mem
