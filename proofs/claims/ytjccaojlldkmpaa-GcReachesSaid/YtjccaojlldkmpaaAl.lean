/- alike and follow, walked; what they compute behind a collection. -/
import Derived.Test.YtjccaojlldkmpaaGB
import Derived.Test.YtjccaojlldkmpaaPa4
namespace Go.Proofs.Ytjccaojlldkmpaa.Mem
open Go.RowKit Go.Proofs.YtjccaojlldkmpaaW.PrintWords Go.Proofs.YtjccaojlldkmpaaW.PrintLast Go.Proofs.YtjccaojlldkmpaaW.PrintMore
open Hf (rightB hdr headOf partsOf)
set_option linter.unusedSimpArgs false
set_option linter.unusedVariables false
set_option maxRecDepth 100000
variable {S S' : Nat → Prop} {w W W' w' : World} {g g' n B : Nat} {st su : St}
theorem int33 (x : Int) (h : u64 x) (w : World) : Calls Try.prog 33 #[.int .u64 x] w fun e w' => e = .returned (.bool (x % 2 == 1)) ∧ Drawn0 w w' := by
  have hf : Pa.kindlingref01_IsInt.f x = some (x % 2 == 1) := by
    unfold Pa.kindlingref01_IsInt.f
    rw [Int.tmod_eq_emod_of_nonneg h.1]
  exact Pa.kindlingref01_IsInt.calls x _ w hf
theorem to35 (a : Int) (h : 1 ≤ a ∧ a ≤ 1000000000) (w : World) : Calls Try.prog 35 #[.int .u64 (2 * a)] w fun e w' => e = .returned (.int .i64 a) ∧ Drawn0 w w' := by
  have e1 : Int.tmod (2 * a) 2 = 0 := by rw [Int.tmod_eq_emod_of_nonneg (by omega)]; omega
  have e2 : Int.tdiv (2 * a) 2 = a := by rw [Int.tdiv_eq_ediv_of_nonneg (by omega)]; omega
  have e3 : IntKind.u64.wrap a = a := by rw [IntKind.wrap_u64]; omega
  have hp : Pa.kindlingref01_IsPtr.f (2 * a) = some true := by
    unfold Pa.kindlingref01_IsPtr.f
    rw [e1, e2, e3, if_pos rfl, if_pos (by omega), decide_eq_true (by omega)]
  have hf : Pa.kindlingref01_ToPtr.f (2 * a) = some a := by
    unfold Pa.kindlingref01_ToPtr.f
    rw [hp]
    show (if true = true then some (wrap64 (IntKind.u64.wrap (Int.tdiv (2 * a) 2))) else some 0) = some a
    rw [if_pos rfl, e2, e3, w64 (by omega)]
  exact Pa.kindlingref01_ToPtr.calls _ _ w hf
theorem ptr40 (a : Int) (h : 1 ≤ a ∧ a ≤ 1000000000) (w : World) : Calls Try.prog 40 #[.int .i64 a] w fun e w' => e = .returned (.int .u64 (2 * a)) ∧ Drawn0 w w' := by
  have hf : Pa.kindlingref01_Ptr.f a = some (2 * a) := by
    unfold Pa.kindlingref01_Ptr.f
    have e3 : IntKind.u64.wrap a = a := by rw [IntKind.wrap_u64]; omega
    have e4 : IntKind.u64.wrap (2 * a) = 2 * a := by rw [IntKind.wrap_u64]; omega
    rw [if_neg (by omega), if_neg (by omega), e3, e4]
  exact Pa.kindlingref01_Ptr.calls _ _ w hf
def amg (a n : Int) : Nat := ((Pa.kindlingref01_Among.f a n).getD 0).toNat
theorem amg_f (a n : Int) (hn : 1 ≤ n) (hn2 : n ≤ 1000000000) : Pa.kindlingref01_Among.f a n = some (amg a n : Int) ∧ (amg a n : Int) < n := by
  obtain ⟨r, h1, h2⟩ := among_f a n hn hn2
  unfold amg
  rw [h1]
  exact ⟨by simp, by simpa using h2⟩
theorem amg41 (a n : Int) (hn : 1 ≤ n) (hn2 : n ≤ 1000000000) (w : World) : Calls Try.prog 41 #[.int .i64 a, .int .i64 n] w fun e w' => e = .returned (.int .i64 (amg a n : Int)) ∧ Drawn0 w w' :=
  Pa.kindlingref01_Among.calls a n _ w (amg_f a n hn hn2).1
/-- Two objects alike. -/
def LikeO (o p : O) : Prop := o.kind = p.kind ∧ o.fs.length = p.fs.length ∧ o.tag = p.tag ∧ ∀ k < o.fs.length, (o.tag ≤ (k : Int) ∨ o.fs.getD k 0 % 2 = 1 ∨ p.fs.getD k 0 % 2 = 1) → o.fs.getD k 0 = p.fs.getD k 0
theorem alike_odd (x : Int) (h : u64 x) (ho : x % 2 = 1) (m m' : Value) (w : World) : Calls Try.prog 39 #[m, .int .u64 x, m', .int .u64 x] w fun e w' => e = .returned (.bool true) ∧ Drawn0 w w' := by
  have h1 := fun W => int33 x h W
  rw [show (x % 2 == 1) = true from beq_iff_eq.2 ho] at h1
  go_enter Try.func39, Try.ntmps39
  go_wp2_with (first
    | (go_at_call 33; (with_reducible refine (h1 _).mono ?_); rintro e w5 ⟨rfl, hd5⟩))
  go_ret
  exact ⟨by simp, hd5⟩
theorem word_u64 (M : IsMem S w g st) (i : Nat) (hi : i < st.os.length) (j : Nat) (hj : j < st.os[i].fs.length) : u64 (st.os[i].fs.getD j 0) := by
  obtain ⟨vw, vh, ow, oh, mb, n, L⟩ := M
  have := (L.H.ok _ (List.getElem_mem hi)).2 (st.os[i].fs[j]) (List.getElem_mem hj)
  simp only [List.getD, List.getElem?_eq_getElem hj, Option.getD_some]
  exact this
theorem parts_of (M : IsMem S w g st) (i : Nat) (hi : i < st.os.length) : (1 ≤ st.os[i].kind ∧ st.os[i].kind ≤ 5) ∧ st.os[i].fs.length ≤ 16384 ∧ 0 ≤ st.os[i].tag ∧ st.os[i].tag ≤ st.os[i].fs.length := by
  obtain ⟨vw, vh, ow, oh, mb, n, L⟩ := M
  obtain ⟨p1, p2, p3, p4, p5, p6⟩ := Hf.right_parts (L.H.ok _ (List.getElem_mem hi)).1
  exact ⟨⟨by omega, by omega⟩, by omega, p5, p6⟩
theorem even_odd {a : Int} : ((2 * a) % 2 == 1) = false := beq_eq_false_iff_ne.2 (by omega)
set_option maxHeartbeats 4000000 in
theorem alike_obj (M : IsMem S w g st) (N : IsMem S' w g' su) (i j : Nat) (hi : i < st.os.length) (hj : j < su.os.length) (hl : LikeO st.os[i] su.os[j]) (x y : Int) (ex : st.f + (pos st.os i : Int) = x) (ey : su.f + (pos su.os j : Int) = y) :
    Calls Try.prog 39 #[.pointer (some ⟨g, 0, none⟩), .int .u64 (2 * x), .pointer (some ⟨g', 0, none⟩), .int .u64 (2 * y)] w fun e w' => e = .returned (.bool true) ∧ Drawn0 w w' := by
  obtain ⟨f1, f2, f3⟩ := M.fbound
  obtain ⟨g1, g2, g3⟩ := N.fbound
  have hpi := pos_head st.os i hi
  have hpj := pos_head su.os j hj
  have hxr : 1 ≤ x ∧ x ≤ 1000000000 := by omega
  have hyr : 1 ≤ y ∧ y ≤ 1000000000 := by omega
  have hx1 := fun W => int33 (2 * x) (by unfold u64; omega) W
  have hy1 := fun W => int33 (2 * y) (by unfold u64; omega) W
  rw [even_odd] at hx1 hy1
  have hLx := fun W (hd : Drawn0 w W) => (M.drawn hd).look i hi
  have hLy := fun W (hd : Drawn0 w W) => (N.drawn hd).look j hj
  rw [ex] at hLx
  rw [ey] at hLy
  obtain ⟨l1, l2, l3, l4⟩ := hl
  have hFx := fun W (hd : Drawn0 w W) (k : Nat) (hk : k < st.os[i].fs.length) => (M.drawn hd).load i k hi hk
  have hFy := fun W (hd : Drawn0 w W) (k : Nat) (hk : k < st.os[i].fs.length) => (N.drawn hd).load j k hj (by rw [← l2]; exact hk)
  rw [ex] at hFx
  rw [ey] at hFy
  have hux := fun k hk => word_u64 M i hi k hk
  have huy := fun k (hk : k < st.os[i].fs.length) => word_u64 N j hj k (by rw [← l2]; exact hk)
  have hlen := (parts_of M i hi).2.1
  rw [← l1, ← l2, ← l3] at hLy
  clear l1 l2 l3 hpi hpj ex ey f1 f2 f3 g1 g2 g3 M N
  generalize st.os[i].kind = kd at *
  generalize st.os[i].tag = tg at *
  generalize st.os[i].fs = fx at *
  generalize su.os[j].fs = fy at *
  have htx := to35 x hxr
  have hty := to35 y hyr
  have hd : Drawn0 w w := ⟨0, rfl⟩
  go_enter Try.func39, Try.ntmps39
  go_wp2_with (first
    | (go_at_call 33; (with_reducible refine (hx1 _).mono ?_); rintro e w5 ⟨rfl, hd5⟩; replace hd := drawn_trans hd hd5)
    | (go_at_call 33; (with_reducible refine (hy1 _).mono ?_); rintro e w5 ⟨rfl, hd5⟩; replace hd := drawn_trans hd hd5)
    | (go_at_call 35; (with_reducible refine (htx _).mono ?_); rintro e w5 ⟨rfl, hd5⟩; replace hd := drawn_trans hd hd5)
    | (go_at_call 35; (with_reducible refine (hty _).mono ?_); rintro e w5 ⟨rfl, hd5⟩; replace hd := drawn_trans hd hd5)
    | (go_at_call 34; (with_reducible refine (hLx _ hd).mono ?_); rintro e w5 ⟨rfl, hd5⟩; replace hd := drawn_trans hd hd5)
    | (go_at_call 34; (with_reducible refine (hLy _ hd).mono ?_); rintro e w5 ⟨rfl, hd5⟩; replace hd := drawn_trans hd hd5))
  go_loopw [17] (fun i wr => ∃ k : Nat, k ≤ fx.length ∧ i = .int .i64 (k : Int) ∧ Drawn0 w wr) (fun i _ => fx.length - (intOf i).toNat)
  case atStart => exact ⟨0, Nat.zero_le _, rfl, hd⟩
  case round =>
    clear hd
    obtain ⟨k, hk, rfl, hd⟩ := hrel
    by_cases hk1 : k < fx.length
    · have t1 : decide ((k : Int) < (fx.length : Int)) = true := decide_eq_true (by omega)
      have hvx := fun W => int33 _ (hux k hk1) W
      have hvy := fun W => int33 _ (huy k hk1) W
      have hFx' := fun W hd => hFx W hd k hk1
      have hFy' := fun W hd => hFy W hd k hk1
      have l5 := l4 k hk1
      clear hux huy hFx hFy l4
      generalize fx.getD k 0 = a at *
      generalize fy.getD k 0 = b at *
      generalize hnn : fx.length = nn at *
      have goal : ∀ W : World, Drawn0 w W → (∃ k' : Nat, k' ≤ nn ∧ (Value.int .i64 ((k : Int) + 1)) = .int .i64 (k' : Int) ∧ Drawn0 w W) := fun W h => ⟨k + 1, by omega, rfl, h⟩
      by_cases c1 : tg ≤ (k : Int)
      · have t2 : decide ((k : Int) ≥ tg) = true := decide_eq_true c1
        obtain rfl := l5 (.inl c1)
        go_wp2_with (first
          | (go_at_call 35; (with_reducible refine (htx _).mono ?_); rintro e w5 ⟨rfl, hd5⟩; replace hd := drawn_trans hd hd5)
          | (go_at_call 35; (with_reducible refine (hty _).mono ?_); rintro e w5 ⟨rfl, hd5⟩; replace hd := drawn_trans hd hd5)
          | (go_at_call 56; (with_reducible refine (hFx' _ hd).mono ?_); rintro e w5 ⟨rfl, hd5⟩; replace hd := drawn_trans hd hd5)
          | (go_at_call 56; (with_reducible refine (hFy' _ hd).mono ?_); rintro e w5 ⟨rfl, hd5⟩; replace hd := drawn_trans hd hd5)
          | (go_at_call 33; (with_reducible refine (hvx _).mono ?_); rintro e w5 ⟨rfl, hd5⟩; replace hd := drawn_trans hd hd5)
          | (go_at_call 33; (with_reducible refine (hvy _).mono ?_); rintro e w5 ⟨rfl, hd5⟩; replace hd := drawn_trans hd hd5))
        go_roundw
        case rel => exact goal _ hd
        case measure => simp [intOf]; omega
      · have t2 : decide ((k : Int) ≥ tg) = false := decide_eq_false c1
        by_cases c2 : a % 2 = 1
        · obtain rfl := l5 (.inr (.inl c2))
          rw [show (a % 2 == 1) = true from beq_iff_eq.2 c2] at hvx
          rw [show (a % 2 == 1) = true from beq_iff_eq.2 c2] at hvy
          go_wp2_with (first
            | (go_at_call 35; (with_reducible refine (htx _).mono ?_); rintro e w5 ⟨rfl, hd5⟩; replace hd := drawn_trans hd hd5)
            | (go_at_call 35; (with_reducible refine (hty _).mono ?_); rintro e w5 ⟨rfl, hd5⟩; replace hd := drawn_trans hd hd5)
            | (go_at_call 56; (with_reducible refine (hFx' _ hd).mono ?_); rintro e w5 ⟨rfl, hd5⟩; replace hd := drawn_trans hd hd5)
            | (go_at_call 56; (with_reducible refine (hFy' _ hd).mono ?_); rintro e w5 ⟨rfl, hd5⟩; replace hd := drawn_trans hd hd5)
            | (go_at_call 33; (with_reducible refine (hvx _).mono ?_); rintro e w5 ⟨rfl, hd5⟩; replace hd := drawn_trans hd hd5)
            | (go_at_call 33; (with_reducible refine (hvy _).mono ?_); rintro e w5 ⟨rfl, hd5⟩; replace hd := drawn_trans hd hd5))
          go_roundw
          case rel => exact goal _ hd
          case measure => simp [intOf]; omega
        · rw [show (a % 2 == 1) = false from beq_eq_false_iff_ne.2 c2] at hvx
          by_cases c3 : b % 2 = 1
          · exact absurd (l5 (.inr (.inr c3)) ▸ c3) c2
          · rw [show (b % 2 == 1) = false from beq_eq_false_iff_ne.2 c3] at hvy
            go_wp2_with (first
              | (go_at_call 35; (with_reducible refine (htx _).mono ?_); rintro e w5 ⟨rfl, hd5⟩; replace hd := drawn_trans hd hd5)
              | (go_at_call 35; (with_reducible refine (hty _).mono ?_); rintro e w5 ⟨rfl, hd5⟩; replace hd := drawn_trans hd hd5)
              | (go_at_call 56; (with_reducible refine (hFx' _ hd).mono ?_); rintro e w5 ⟨rfl, hd5⟩; replace hd := drawn_trans hd hd5)
              | (go_at_call 56; (with_reducible refine (hFy' _ hd).mono ?_); rintro e w5 ⟨rfl, hd5⟩; replace hd := drawn_trans hd hd5)
              | (go_at_call 33; (with_reducible refine (hvx _).mono ?_); rintro e w5 ⟨rfl, hd5⟩; replace hd := drawn_trans hd hd5)
              | (go_at_call 33; (with_reducible refine (hvy _).mono ?_); rintro e w5 ⟨rfl, hd5⟩; replace hd := drawn_trans hd hd5))
            go_roundw
            case rel => exact goal _ hd
            case measure => simp [intOf]; omega
    · obtain rfl : k = fx.length := by omega
      have t1 : decide (((fx.length : Nat) : Int) < (fx.length : Int)) = false := decide_eq_false (by omega)
      go_wp2_with fail
      go_ret
      exact ⟨rfl, hd⟩
end Go.Proofs.Ytjccaojlldkmpaa.Mem
