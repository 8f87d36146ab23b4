/- The document's memory: Store. -/
import Derived.Test.YtjccaojlldkmpaaRm3
namespace Go.Proofs.Ytjccaojlldkmpaa.Rm
open Go.RowKit Go.Proofs.YtjccaojlldkmpaaW.PrintWords Go.Proofs.YtjccaojlldkmpaaW.PrintLast Go.Proofs.YtjccaojlldkmpaaW.PrintMore
open Mem (Fr)
open Hf (rightB right_parts)
open Pa
set_option linter.unusedSimpArgs false
set_option linter.unusedVariables false
set_option maxRecDepth 100000
variable {S : Nat → Prop} {w w' W : World} {g c : Nat} {vn vo v : Value} {rs : RS} {l : List P5}
/-- Find, told of the place. -/
theorem find_at (R : Ro w v l) (hl : l.length ≤ 100000) (a : Int) (k : Nat) (hk : k < l.length) (ha : l[k].o.f0 = a) (hn : ∀ j, (hj : j < k) → (l[j]'(by omega)).o.f0 ≠ a) (W : World) (hd : Drawn0 w W) :
    Calls Try.prog 63 #[v, .int .i64 a] W fun e w' => e = .returned (.int .i64 (k : Int)) ∧ Drawn0 W w' := by
  obtain ⟨A, c, rfl, hc, hC⟩ := R.reads
  refine Pa.kindlingref02_Find.calls _ A c _ a _ W (Kd.C_below hC hd.below) hc (find_yes (l.map P5.o) a k (by simpa using hk) (by rw [List.length_map]; omega) (by simpa using ha) (fun j hj => by simpa using hn j hj))
theorem find_none (R : Ro w v l) (hl : l.length ≤ 100000) (a : Int) (hn : ∀ p ∈ l, p.o.f0 ≠ a) (W : World) (hd : Drawn0 w W) :
    Calls Try.prog 63 #[v, .int .i64 a] W fun e w' => e = .returned (.int .i64 (-1)) ∧ Drawn0 W w' := by
  obtain ⟨A, c, rfl, hc, hC⟩ := R.reads
  refine Pa.kindlingref02_Find.calls _ A c _ a _ W (Kd.C_below hC hd.below) hc (find_no (l.map P5.o) a (by rw [List.length_map]; omega) (fun o ho => by
    obtain ⟨p, hp, rfl⟩ := List.mem_map.1 ho
    exact hn p hp))
/-- No two objects at one address. -/
def Alone (l : List P5) : Prop := ∀ i j, (hi : i < l.length) → (hj : j < l.length) → l[i].o.f0 = l[j].o.f0 → i = j
/-- A word of an object in use is turned. -/
theorem Lies.word (L : Lies S w g vn vo rs) (k : Nat) (hk : k < rs.now.length) {q c : Nat} (hv : rs.now[k].v = .slice (some ⟨q, 0, none⟩) rs.now[k].o.f3.length c) (i : Nat) (x : Int) :
    Lies S (w.setCell ⟨q, i, none⟩ (.int .u64 x)) g vn vo { rs with now := rs.now.set k ⟨{ rs.now[k].o with f3 := rs.now[k].o.f3.set i x }, rs.now[k].v⟩ } ∧ Fr S w (w.setCell ⟨q, i, none⟩ (.int .u64 x)) := by
  have hkm : rs.now[k] ∈ rs.now := List.getElem_mem hk
  have hob : rs.now[k].v.ownBlock = some q := by rw [hv]; rfl
  obtain ⟨c1, ht⟩ := L.now.typed_row _ hkm q hob
  have hpd := L.pd
  unfold Apart at hpd
  obtain ⟨q1, q2, q3⟩ := List.pairwise_append.1 hpd
  have hd : ∀ j, (hj : j < rs.now.length) → j ≠ k → rs.now[j].v.ownBlock ≠ some q := fun j hj hne e => by
    rcases Nat.lt_or_gt_of_ne hne with h | h
    · exact List.pairwise_iff_getElem.1 q1 j k hj hk h q e hob
    · exact List.pairwise_iff_getElem.1 q1 k j hk hj h q hob e
  have hvset : ∀ p, p ∈ rs.now.set k ⟨{ rs.now[k].o with f3 := rs.now[k].o.f3.set i x }, rs.now[k].v⟩ → ∃ p', p' ∈ rs.now ∧ p'.v = p.v := fun p hp => by
    rcases List.mem_or_eq_of_mem_set hp with h | rfl
    · exact ⟨p, h, rfl⟩
    · exact ⟨rs.now[k], hkm, rfl⟩
  refine ⟨⟨?_, L.now.word k hk hv hd i x, ?_, L.ap, ?_, L.sg, L.sn, L.so, ?_⟩, Fr.of_set _ _ _ (L.sw _ (List.mem_append_left _ hkm) q hob)⟩
  · exact blk_far L.blk (p := ⟨q, i, none⟩) (fun e => by
      have e' : g = q := e
      have := L.blk
      rw [e', ht] at this
      cases this) _
  · refine L.old.keep (T := fun b => b = q) (Fr.of_set _ ⟨q, i, none⟩ _ rfl) (fun b hb e => ?_) (fun p hp b hb e => ?_)
    · obtain ⟨c2, h2⟩ := L.old.typed b hb
      rw [e, ht] at h2
      cases h2
    · exact q3 _ hkm p hp q hob (e ▸ hb)
  · show Apart (rs.now.set k _ ++ rs.old)
    unfold Apart
    refine List.pairwise_append.2 ⟨?_, q2, fun a ha b hb => ?_⟩
    · refine List.pairwise_iff_getElem.2 (fun i1 j1 hi hj hij => ?_)
      rw [List.length_set] at hi hj
      have h := List.pairwise_iff_getElem.1 q1 i1 j1 hi hj hij
      have e1 : ∀ m (hm : m < rs.now.length), ((rs.now.set k ⟨{ rs.now[k].o with f3 := rs.now[k].o.f3.set i x }, rs.now[k].v⟩)[m]'(by rw [List.length_set]; exact hm)).v = rs.now[m].v := fun m hm => by
        rw [List.getElem_set]
        split
        · rename_i e
          subst e
          rfl
        · rfl
      intro b hb
      rw [e1 _ hi] at hb
      rw [e1 _ hj]
      exact h b hb
    · obtain ⟨a', ha', e⟩ := hvset a ha
      rw [← e]
      exact q3 a' ha' b hb
  · intro p hp b hb
    rcases List.mem_append.1 hp with h | h
    · obtain ⟨a', ha', e⟩ := hvset p h
      exact L.sw a' (List.mem_append_left _ ha') b (e ▸ hb)
    · exact L.sw p (List.mem_append_right _ h) b hb
set_option maxHeartbeats 4000000 in
theorem store_any (L : Lies S w g vn vo rs) (hl : rs.now.length ≤ 65536) (k : Nat) (hk : k < rs.now.length) (hA : Alone rs.now) (a : Int) (ha : rs.now[k].o.f0 = a) (i : Nat) (hi : i < rs.now[k].o.f3.length) (hlen : rs.now[k].o.f3.length ≤ 65536) (x : Int) :
    Calls Try.prog 48 #[.pointer (some ⟨g, 0, none⟩), .int .i64 a, .int .i64 (i : Int), .int .u64 x] w fun e w' => e = .returned (.int .i64 0) ∧
      Lies S w' g vn vo { rs with now := rs.now.set k ⟨{ rs.now[k].o with f3 := rs.now[k].o.f3.set i x }, rs.now[k].v⟩ } ∧ Fr S w w' := by
  have hF := find_at L.now (by omega) a k hk ha (fun j hj e => by
    have := hA j k (by omega) hk (e.trans ha.symm)
    omega)
  obtain ⟨qn, cn, cells, rfl, hbn, hcell⟩ := L.now.shape (by omega)
  obtain ⟨n, hn⟩ : ∃ n, rs.now[k].o.f3.length = n := ⟨_, rfl⟩
  obtain ⟨q, c, hv, -, -, cw, hbw⟩ := Kd.R_form (L.now.row k hk) (by omega)
  have L1 := fun m => (L.drawn (d0 w m)).word k hk hv i x
  have e3 := hcell k hk 3 _ rfl
  have c2 : w.cell? ⟨g, 2, none⟩ = some (.slice (some ⟨qn, 0, none⟩) rs.now.length cn) := (blk_cell L.blk 2).trans rfl
  have c3 : w.cell? ⟨qn, k * 5 + 3, none⟩ = some (.slice (some ⟨q, 0, none⟩) n c) := (blk_cell hbn _).trans (e3.trans (by rw [hv, hn]))
  obtain ⟨cc, hcc⟩ : ∃ v, w.cell? ⟨q, i, none⟩ = some v := by
    have h := (Kd.R_cell (enc := Value.int .u64) (h1 := fun _ => rfl) (0 : Int) (by have := L.now.row k hk; rw [hv] at this; exact this) (i : Int) (by omega) (by omega)).1
    rw [Int.toNat_natCast] at h
    exact ⟨_, h⟩
  have z3 := blk_frozen hbw i
  have d1 : decide ((k : Int) < 0) = false := decide_eq_false (by omega)
  have d2 : decide ((i : Int) < 0) = false := decide_eq_false (by omega)
  have d3 : decide ((i : Int) ≥ (n : Int)) = false := decide_eq_false (by omega)
  have d3n : decide (n ≤ i) = false := decide_eq_false (by omega)
  have e4 : (n ≤ i) = False := eq_false (by omega)
  have e5 : (i < n) = True := eq_true (by omega)
  have d4 : decide (0 ≤ (k : Int)) = true := decide_eq_true (by omega)
  have d5 : decide ((k : Int) < (rs.now.length : Int)) = true := decide_eq_true (by omega)
  have d6 : decide (0 ≤ (i : Int)) = true := decide_eq_true (by omega)
  have d7 : decide ((i : Int) < (n : Int)) = true := decide_eq_true (by omega)
  have hd : Drawn0 w w := ⟨0, rfl⟩
  have hn' := Aside0.mk hn
  clear hn e3 hcell ha
  go_enter Try.func48, Try.ntmps48
  go_wp2_with (first
    | (go_at_call 63; (with_reducible refine (hF _ hd).mono ?_); rintro e w5 ⟨rfl, hd5⟩; obtain ⟨m, rfl⟩ := hd5.out))
  go_ret
  exact ⟨rfl, (L1 m).1, (Fr.of_drawn (d0 w m)).trans (L1 m).2⟩
end Go.Proofs.Ytjccaojlldkmpaa.Rm
