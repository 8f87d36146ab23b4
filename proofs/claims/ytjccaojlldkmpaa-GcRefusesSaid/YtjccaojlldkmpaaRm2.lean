/- The document's memory: New, Next, Free. -/
import Derived.Test.YtjccaojlldkmpaaRm1
import Derived.Deep.QuietTactic
import Derived.BigRegion
import Derived.Deep.RegionHeld3
namespace Go.Proofs.Ytjccaojlldkmpaa.Rm
open Go.RowKit Go.Proofs.YtjccaojlldkmpaaW.PrintWords Go.Proofs.YtjccaojlldkmpaaW.PrintLast Go.Proofs.YtjccaojlldkmpaaW.PrintMore
open Mem (Fr)
open Pa (S87 k87 z87 rd_T87 at_T87 k87_mk)
set_option linter.unusedSimpArgs false
set_option linter.unusedVariables false
set_option maxRecDepth 100000
variable {S : Nat → Prop} {w w' W : World} {g n c : Nat} {vn vo v : Value} {rs : RS} {l : List P5}
theorem q_of {P : Program} {f : FuncId} {args : Array Value} {w : World} {n : Nat} {v : Value} (h : Calls P f args (w.drewN n) fun e w' => e = .returned v ∧ Drawn0 (w.drewN n) w') :
    Calls P f args (w.drewN n) fun e w'' => e = .returned v ∧ ∃ m, w'' = w.drewN m := Calls.quiet_of (h.mono fun _ _ ⟨he, hd⟩ => ⟨he, hd.out⟩)
theorem d0 (w : World) (n : Nat) : Drawn0 w (w.drewN n) := ⟨n, rfl⟩
theorem wr64 {n : Int} (h : -9223372036854775808 ≤ n ∧ n ≤ 9223372036854775807) : IntKind.i64.wrap n = n := by rw [IntKind.wrap_i64]; omega
theorem new_any (N : Int) (h : 64 ≤ N ∧ N ≤ 65536) (w : World) : Calls Try.prog 46 #[.int .i64 N] w fun e w' => e = .returned (.tuple #[.agg #[.int .i64 N, .int .i64 0, .slice none 0 0, .slice none 0 0], .bool true]) ∧ Below w.heap.size w w' := by
  have hu30 := Try.underlying30
  have d1 : decide (N < 64) = false := decide_eq_false (by omega)
  have d2 : decide (65536 < N) = false := decide_eq_false (by omega)
  go_enter Try.func46, Try.ntmps46
  go_wp2_with fail
  exact bodyPost_ret (results_ct rfl _ _ w.heap.size 30 #[.int .i64 N, .int .i64 0, .slice none 0 0, .slice none 0 0] (0, 0) _ rfl (blk_new _ _) Try.underlying30 rfl (by kernel_rfl)) rfl ⟨rfl, below_alloc (Below.refl _ _) _⟩
structure Fit (rs : RS) : Prop where
  u : used (rs.now.map P5.o) ≤ 65536
  ou : used (rs.old.map P5.o) ≤ 65536
  s : 0 ≤ rs.size ∧ rs.size ≤ 65536
  h : rs.half = 0 ∨ rs.half = 1
theorem Fit.hs (F : Fit rs) : 0 ≤ rs.half * rs.size ∧ rs.half * rs.size ≤ 65536 := by
  have := F.s
  rcases F.h with e | e <;> rw [e] <;> omega
def next (rs : RS) : Int := 1 + rs.half * rs.size + (used (rs.now.map P5.o) : Int)
def free (rs : RS) : Int := rs.size - (used (rs.now.map P5.o) : Int)
theorem next_any (L : Lies S w g vn vo rs) (F : Fit rs) : Calls Try.prog 61 #[.pointer (some ⟨g, 0, none⟩)] w fun e w' => e = .returned (.int .i64 (next rs)) ∧ Drawn0 w w' := by
  have c0 : w.cell? ⟨g, 0, none⟩ = some (.int .i64 rs.size) := (blk_cell L.blk 0).trans rfl
  have c1 : w.cell? ⟨g, 1, none⟩ = some (.int .i64 rs.half) := (blk_cell L.blk 1).trans rfl
  have c2 : w.cell? ⟨g, 2, none⟩ = some vn := (blk_cell L.blk 2).trans rfl
  have hu := F.u
  have hs := F.hs
  have hU := used_any L.now (by omega)
  have hu0 : 0 ≤ (used (rs.now.map P5.o) : Int) ∧ (used (rs.now.map P5.o) : Int) ≤ 65536 := by omega
  unfold next
  generalize (used (rs.now.map P5.o) : Int) = u at *
  generalize hm : rs.half * rs.size = m at *
  have w1 : IntKind.i64.wrap m = m := wr64 (by omega)
  have w2 : IntKind.i64.wrap (1 + m) = 1 + m := wr64 (by omega)
  have w3 : IntKind.i64.wrap (1 + m + u) = 1 + m + u := wr64 (by omega)
  go_enter Try.func61, Try.ntmps61
  go_wp2_with fail
  go_quiet (first | (go_at_call 78; (with_reducible exact q_of (hU _ (d0 _ _)))))
  go_wp2_with fail
  go_ret
  exact ⟨rfl, d0 _ _⟩
theorem free_any (L : Lies S w g vn vo rs) (F : Fit rs) : Calls Try.prog 62 #[.pointer (some ⟨g, 0, none⟩)] w fun e w' => e = .returned (.int .i64 (free rs)) ∧ Drawn0 w w' := by
  have c0 : w.cell? ⟨g, 0, none⟩ = some (.int .i64 rs.size) := (blk_cell L.blk 0).trans rfl
  have c2 : w.cell? ⟨g, 2, none⟩ = some vn := (blk_cell L.blk 2).trans rfl
  have hu := F.u
  have hs := F.s
  have hU := used_any L.now (by omega)
  have hu0 : 0 ≤ (used (rs.now.map P5.o) : Int) ∧ (used (rs.now.map P5.o) : Int) ≤ 65536 := by omega
  unfold free
  generalize (used (rs.now.map P5.o) : Int) = u at *
  have w3 : IntKind.i64.wrap (rs.size - u) = rs.size - u := wr64 (by omega)
  go_enter Try.func62, Try.ntmps62
  go_wp2_with fail
  go_quiet (first | (go_at_call 78; (with_reducible exact q_of (hU _ (d0 _ _)))))
  go_wp2_with fail
  go_ret
  exact ⟨rfl, d0 _ _⟩
/-- A row of words grows by append in a box's cell. -/
theorem info56 : (Try.prog.info? 56).map (fun i => (i.zero, i.size, i.bytes)) = some (some (.int .u64 0), 1, 8) := by kernel_rfl
end Go.Proofs.Ytjccaojlldkmpaa.Rm
