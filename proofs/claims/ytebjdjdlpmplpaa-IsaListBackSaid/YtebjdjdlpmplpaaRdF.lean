/- isa.Read as a function of a text of at most 1000000 bytes. -/
import Derived.Test.YtebjdjdlpmplpaaRd
import Derived.Test.YtebjdjdlpmplpaaLpParse
namespace Go.Proofs.Ytebjdjdlpmplpaa.Tx
open Go.RowKit Go.Proofs.YtebjdjdlpmplpaaW.PrintWords Go.Proofs.YtebjdjdlpmplpaaW.PrintLast
open FaT (Right textW joinW err parse_yes parse_no)
open Num (bts)
/-- What isa.Parse answers of a line. -/
def pq (ln : ByteArray) : Int × Int × Int × Int × Int × Int := (isa_Parse.f (ln.size + 60) ln).getD err
theorem pq_f (ln : ByteArray) (h : ln.size ≤ 1000000) : isa_Parse.f (ln.size + 60) ln = some (pq ln) := by
  have hx : ∃ p, isa_Parse.f (0 + ln.size + 60) ln = some p := by
    by_cases hr : ∃ op a b c n, Right op a b c n ∧ bts ln = joinW (textW op a b c n)
    · obtain ⟨op, a, b, c, n, hr, ht⟩ := hr
      exact ⟨_, parse_yes ln h 0 hr ht⟩
    · exact ⟨_, parse_no ln h 0 (fun op a b c n hr' ht => hr ⟨op, a, b, c, n, hr', ht⟩)⟩
  obtain ⟨p, hp⟩ := hx
  rw [Nat.zero_add] at hp
  unfold pq
  rw [hp]
  rfl
def qL (ln : ByteArray) : S30 := ⟨(pq ln).1, (pq ln).2.1, (pq ln).2.2.1, (pq ln).2.2.2.1, (pq ln).2.2.2.2.1⟩
def eL (ln : ByteArray) : Int := (pq ln).2.2.2.2.2
noncomputable def isa_Read.f (a0 : ByteArray) : Option (List S30 × Int × Int) := if a0.size ≤ 1000000 then some (Ln.readOf a0 qL eL) else none
theorem isa_Read.calls (a0 : ByteArray) (r1 : List S30) (r2 : Int) (r3 : Int) (w : World) (h : isa_Read.f a0 = some (r1, r2, r3)) :
    Calls Try.prog 37 #[.string a0] w fun e w' => ∃ v0_ : Value, e = .returned (.tuple #[v0_, .int .i64 r2, .int .i64 r3]) ∧ Kd.R k30 30 w' w.heap.size (fun _ => True) v0_ r1 ∧ Below w.heap.size w w' := by
  unfold isa_Read.f at h
  by_cases hs : a0.size ≤ 1000000
  · rw [if_pos hs] at h
    have h := Option.some.inj h
    have hc := Ln.read_any a0 qL eL hs (fun ln w' hl => isa_Parse.calls (ln.size + 60) ln _ _ _ _ _ _ w' (pq_f ln (by omega))) w
    rw [h] at hc
    exact hc
  · rw [if_neg hs] at h
    cases h
end Go.Proofs.Ytebjdjdlpmplpaa.Tx
