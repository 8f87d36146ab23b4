/- Whether each object but one holds what it was filled with: the walk of holds. -/
import Derived.Test.YtaliolnndbnfhaaRoom
namespace Go.Proofs.Ytaliolnndbnfhaa.Mem
open Go.RowKit Go.Proofs.YtaliolnndbnfhaaW.PrintWords Go.Proofs.YtaliolnndbnfhaaW.PrintLast Go.Proofs.YtaliolnndbnfhaaW.PrintMore
open Hf (rightB hdr headOf partsOf w64_of)
set_option linter.unusedSimpArgs false
set_option linter.unusedVariables false
variable {S : Nat → Prop} {w w' : World} {g : Nat} {st : St}
def lensI (os : List O) : List Int := os.map fun o => (o.fs.length : Int)
theorem lensI_get (os : List O) (i : Nat) (h : i < os.length) : rdOf 0 (lensI os) (i : Int) = (os[i].fs.length : Int) := by
  unfold rdOf lensI
  rw [Int.toNat_natCast]
  simp [List.getD, h]
theorem lensI_length (os : List O) : (lensI os).length = os.length := by simp [lensI]
theorem IsMem.drawn (M : IsMem S w g st) (hd : Drawn0 w w') : IsMem S w' g st := M.keep (T := fun _ => False) (Fr.of_drawn hd) (fun _ _ h => h)
theorem Hs_drawn {v : Value} {xs : List Int} (h : Hs w v xs) (hd : Drawn0 w w') : Hs w' v xs := by
  obtain ⟨m, rfl⟩ := hd
  exact Kd.R_drewN h m
theorem drawn_trans {x y z : World} (h : Drawn0 x y) (k : Drawn0 y z) : Drawn0 x z := by
  obtain ⟨m, rfl⟩ := h
  obtain ⟨m2, rfl⟩ := k
  exact ⟨m + m2, by simp⟩
set_option maxHeartbeats 8000000 in
set_option maxRecDepth 100000 in
theorem holds_any (M : IsMem S w g st) (Aa As : Option Addr) (ca cs n : Nat) (but : Int) (ra : Hs w (.slice Aa n ca) (heads st.f st.os)) (rs : Hs w (.slice As n cs) (lensI st.os)) (hn : st.os.length = n) (hn2 : n ≤ 100) (h8 : ∀ (i : Nat) (h : i < st.os.length), st.os[i].fs.length ≤ 8)
    (hv : ∀ (i k : Nat) (h : i < st.os.length), k < st.os[i].fs.length → (i : Int) ≠ but → st.os[i].fs.getD k 0 = ((100 * i + k : Nat) : Int)) :
    Calls Try.prog 27 #[.pointer (some ⟨g, 0, none⟩), .slice Aa n ca, .slice As n cs, .int .i64 but] w fun e w' => e = .returned (.bool true) ∧ Drawn0 w w' := by
  have hhl := heads_length st.f st.os
  have hll := lensI_length st.os
  go_enter Try.func27, Try.ntmps27
  go_wp2_with fail
  go_loopw [9] (fun i wr => ∃ k : Nat, i = .int .i64 k ∧ k ≤ n ∧ Drawn0 w wr) (fun i _ => n - (intOf i).toNat)
  case atStart => exact ⟨0, rfl, Nat.zero_le _, ⟨0, rfl⟩⟩
  case round =>
    obtain ⟨k, rfl, hk, hd⟩ := hrel
    by_cases hlt : k < n
    · have t1 : decide ((k : Int) < (n : Int)) = true := decide_eq_true (by omega)
      have hi0 : decide (0 ≤ (k : Int)) = true := decide_eq_true (by omega)
      obtain ⟨ga, ca', ea, -⟩ := Kd.R_form ra (by omega)
      obtain ⟨gs, cs', es, -⟩ := Kd.R_form rs (by omega)
      injection ea with ea1 ea2 ea3
      injection es with es1 es2 es3
      subst ea1 es1
      clear ea2 ea3 es2 es3
      have hko : k < st.os.length := by omega
      obtain ⟨N, hN⟩ : ∃ N : Nat, st.os[k].fs.length = N := ⟨_, rfl⟩
      have hN8 : N ≤ 8 := by rw [← hN]; exact h8 k hko
      go_wp2_with fail
      go_loopw [10] (fun j wq => ∃ q : Nat, j = .int .i64 q ∧ q ≤ N ∧ Drawn0 w wq) (fun j _ => N - (intOf j).toNat)
      case atStart => exact ⟨0, rfl, Nat.zero_le _, hd⟩
      case round =>
        clear hd
        obtain ⟨q, rfl, hq, hd⟩ := hrel
        have hca := (Kd.R_celln (0 : Int) (Hs_drawn ra hd) (k : Int) (by omega) (by omega)).1
        have hcs := (Kd.R_celln (0 : Int) (Hs_drawn rs hd) (k : Int) (by omega) (by omega)).1
        rw [heads_getD st.f _ k hko, Int.toNat_natCast] at hca
        rw [lensI_get st.os k hko, Int.toNat_natCast, hN] at hcs
        by_cases hqn : q < N
        · have t2 : decide ((q : Int) < (N : Int)) = true := decide_eq_true (by omega)
          have hL := (M.drawn hd).load k q hko (by omega)
          obtain ⟨A, hA⟩ : ∃ A : Int, st.f + (pos st.os k : Int) = A := ⟨_, rfl⟩
          rw [hA] at hca hL
          obtain ⟨V, hV⟩ : ∃ V : Nat, V = 100 * k + q := ⟨_, rfl⟩
          have hU : 100 * (k : Int) + (q : Int) = (V : Int) := by omega
          have hU2 : (V : Int) % 18446744073709551616 = (V : Int) := by omega
          have hvk := hv k q hko (by omega)
          rw [← hV] at hvk
          obtain ⟨X, hX⟩ : ∃ X : Int, st.os[k].fs.getD q 0 = X := ⟨_, rfl⟩
          rw [hX] at hL hvk
          clear hV hX hA
          by_cases hb : (k : Int) = but
          · subst hb
            have t3 : ((k : Int) != (k : Int)) = false := by simp
            clear hvk hv
            go_wp2_with (first
              | (go_at_call 26; (with_reducible refine hL.mono ?_); clear hL; rintro e w7 ⟨rfl, hd7⟩))
            go_roundw
            case rel => exact ⟨q + 1, by simp, by omega, drawn_trans hd hd7⟩
            case measure => simp [intOf]; omega
          · have t3 : ((k : Int) != but) = true := bne_iff_ne.2 hb
            obtain rfl := hvk hb
            have t4 : ((V : Int) != (V : Int)) = false := by simp
            go_wp2_with (first
              | (go_at_call 26; (with_reducible refine hL.mono ?_); clear hL; rintro e w7 ⟨rfl, hd7⟩))
            go_roundw
            case rel => exact ⟨q + 1, by simp, by omega, drawn_trans hd hd7⟩
            case measure => simp [intOf]; omega
        · have t2 : decide ((q : Int) < (N : Int)) = false := decide_eq_false (by omega)
          go_wp2_with fail
          go_roundw
          case rel => exact ⟨k + 1, by simp, by omega, hd⟩
          case measure => simp [intOf]; omega
    · have t1 : decide ((k : Int) < (n : Int)) = false := decide_eq_false (by omega)
      go_wp2_with fail
      go_ret
      exact ⟨rfl, hd⟩
end Go.Proofs.Ytaliolnndbnfhaa.Mem
