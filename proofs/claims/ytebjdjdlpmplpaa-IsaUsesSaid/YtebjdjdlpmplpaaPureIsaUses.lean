/- IsaUses at every instruction: the registers that are read and written are those of the table. -/
import Derived.Test.YtebjdjdlpmplpaaFactU
import Derived.Test.YtebjdjdlpmplpaaPr10
namespace Go.Proofs.Ytebjdjdlpmplpaa.Pure
open Go.RowKit Go.Proofs.Ytebjdjdlpmplpaa.Pr Go.Proofs.Ytebjdjdlpmplpaa.FaU Go.Proofs.Ytebjdjdlpmplpaa.Isa Go.Proofs.YtebjdjdlpmplpaaW.PrintWords Go.Proofs.YtebjdjdlpmplpaaW.PrintLast
/-- What a letter is of. -/
def lt (a b c n : Int) (ch : Int) : Int := if ch = 97 then a else if ch = 98 then b else if ch = 99 then c else if ch = 48 then 0 else n
def lets (s : ByteArray) (a b c n : Int) : List Int := (Num.bts s).map (lt a b c n)
theorem letter_f (op a b c n ch : Int) : kindlingref03_Letter.f op a b c n ch = some (lt a b c n ch) := by
  unfold kindlingref03_Letter.f lt
  split
  · rfl
  split
  · rfl
  split
  · rfl
  split <;> rfl
theorem letters_from (s : ByteArray) (op a b c n : Int) (m : Nat) : ∀ (i k : Nat) (acc : List Int), i + m = s.size → s.size ≤ 3 → acc.length = i → kindlingref03_letters.l0 (k + m + 1) s acc (i : Int) op a b c n = some (acc ++ ((Num.bts s).drop i).map (lt a b c n)) := by
  induction m with
  | zero =>
    intro i k acc h _ _
    rw [kindlingref03_letters.l0, if_neg (by omega), List.drop_of_length_le (by rw [Num.bts_length]; omega)]
    simp
  | succ m ih =>
    intro i k acc h hs ha
    have hi : i < s.size := by omega
    have hd : (Num.bts s).drop i = bt s i :: (Num.bts s).drop (i + 1) := by
      rw [bt_bts s i hi]; exact List.drop_eq_getElem_cons _
    have hw : wrap64 ((i : Int) + 1) = ((i + 1 : Nat) : Int) := by unfold wrap64; omega
    have hk := ih (i + 1) k (acc ++ [lt a b c n (bt s i)]) (by omega) hs (by simp [ha])
    rw [show k + (m + 1) + 1 = (k + m + 1) + 1 from rfl, kindlingref03_letters.l0, if_pos (by omega), if_pos (by omega), letter_f, Option.bind_some, if_pos (by omega), hw, hk, hd]
    simp
theorem letters_f (k : Nat) (s : ByteArray) (op a b c n : Int) (hs : s.size ≤ 3) : kindlingref03_letters.f (k + 4) op a b c n s = some (lets s a b c n) := by
  unfold kindlingref03_letters.f lets
  rw [show k + 4 = (k + 3 - s.size) + s.size + 1 by omega]
  exact letters_from s op a b c n s.size 0 _ [] (by omega) hs rfl
theorem reads_small {op : Int} (h : opIn op) : (readsAt op.toNat).size ≤ 2 := by
  rcases op_cases h.1 h.2 with rfl | rfl | rfl | rfl | rfl | rfl | rfl | rfl | rfl | rfl | rfl | rfl | rfl | rfl | rfl | rfl | rfl | rfl | rfl | rfl | rfl | rfl | rfl | rfl | rfl | rfl | rfl | rfl | rfl | rfl | rfl | rfl | rfl | rfl | rfl | rfl <;> decide
theorem writes_small {op : Int} (h : opIn op) : (writesAt op.toNat).size ≤ 2 := by
  rcases op_cases h.1 h.2 with rfl | rfl | rfl | rfl | rfl | rfl | rfl | rfl | rfl | rfl | rfl | rfl | rfl | rfl | rfl | rfl | rfl | rfl | rfl | rfl | rfl | rfl | rfl | rfl | rfl | rfl | rfl | rfl | rfl | rfl | rfl | rfl | rfl | rfl | rfl | rfl <;> decide
def RD (op a b c n : Int) : List Int := if checkOf op a b c n = 0 then lets (readsAt op.toNat) a b c n else []
def WR (op a b c n : Int) : List Int := if checkOf op a b c n = 0 then lets (writesAt op.toNat) a b c n else []
theorem RD_small (op a b c n : Int) : (RD op a b c n).length ≤ 2 := by
  unfold RD
  split
  · rename_i h
    have := reads_small (check_in h)
    unfold lets
    rw [List.length_map, Num.bts_length]
    exact this
  · simp
theorem WR_small (op a b c n : Int) : (WR op a b c n).length ≤ 2 := by
  unfold WR
  split
  · rename_i h
    have := writes_small (check_in h)
    unfold lets
    rw [List.length_map, Num.bts_length]
    exact this
  · simp
theorem rreads_f (k : Nat) (op a b c n : Int) : kindlingref03_Reads.f (k + 12) op a b c n = some (RD op a b c n) := by
  unfold kindlingref03_Reads.f RD
  rw [rcheck_f, Option.bind_some]
  by_cases h : checkOf op a b c n = 0
  · rw [if_pos h, if_pos h, find_in (check_in h), Option.bind_some]
    dsimp only
    rw [show k + 12 = k + 8 + 4 from rfl, letters_f (k + 8) _ _ _ _ _ _ (Nat.le_trans (reads_small (check_in h)) (by decide)), Option.bind_some]
  · rw [if_neg h, if_neg h]
theorem rwrites_f (k : Nat) (op a b c n : Int) : kindlingref03_Writes.f (k + 12) op a b c n = some (WR op a b c n) := by
  unfold kindlingref03_Writes.f WR
  rw [rcheck_f, Option.bind_some]
  by_cases h : checkOf op a b c n = 0
  · rw [if_pos h, if_pos h, find_in (check_in h), Option.bind_some]
    dsimp only
    rw [show k + 12 = k + 8 + 4 from rfl, letters_f (k + 8) _ _ _ _ _ _ (Nat.le_trans (writes_small (check_in h)) (by decide)), Option.bind_some]
  · rw [if_neg h, if_neg h]
theorem ireads_f (k : Nat) (op a b c n : Int) : isa_Reads.f (k + 2) op a b c n = some (RD op a b c n) := by
  unfold isa_Reads.f RD
  rw [icheck_f, Option.bind_some]
  by_cases h : checkOf op a b c n = 0
  · rw [if_pos h, if_pos h]
    have hi := check_in h
    clear h
    rcases op_cases hi.1 hi.2 with rfl | rfl | rfl | rfl | rfl | rfl | rfl | rfl | rfl | rfl | rfl | rfl | rfl | rfl | rfl | rfl | rfl | rfl | rfl | rfl | rfl | rfl | rfl | rfl | rfl | rfl | rfl | rfl | rfl | rfl | rfl | rfl | rfl | rfl | rfl | rfl <;> first | rfl | (simp [isa_Reads.j0, isa_Reads.j1, isa_Form.f, formOf, formAt, ByteArray.toList_eq, readsAt]; rfl)
  · rw [if_neg h, if_neg h]
theorem iwrites_f (k : Nat) (op a b c n : Int) : isa_Writes.f (k + 1) op a b c n = some (WR op a b c n) := by
  unfold isa_Writes.f WR
  rw [icheck_f, Option.bind_some]
  by_cases h : checkOf op a b c n = 0
  · rw [if_pos h, if_pos h]
    have hi := check_in h
    clear h
    rcases op_cases hi.1 hi.2 with rfl | rfl | rfl | rfl | rfl | rfl | rfl | rfl | rfl | rfl | rfl | rfl | rfl | rfl | rfl | rfl | rfl | rfl | rfl | rfl | rfl | rfl | rfl | rfl | rfl | rfl | rfl | rfl | rfl | rfl | rfl | rfl | rfl | rfl | rfl | rfl <;> rfl
  · rw [if_neg h, if_neg h]
theorem same_from (l : List Int) (m : Nat) : ∀ (i k : Nat), i + m = l.length → l.length ≤ 2 → kindlingref03_SameInts.l0 (k + m + 1) l l (i : Int) = some true := by
  induction m with
  | zero =>
    intro i k h _
    rw [kindlingref03_SameInts.l0, if_neg (by omega)]
  | succ m ih =>
    intro i k h hs
    have hw : wrap64 ((i : Int) + 1) = ((i + 1 : Nat) : Int) := by unfold wrap64; omega
    rw [show k + (m + 1) + 1 = (k + m + 1) + 1 from rfl, kindlingref03_SameInts.l0, if_pos (by omega), if_pos (by omega), if_pos (by omega), if_pos rfl, hw]
    exact ih (i + 1) k (by omega) hs
theorem same_f (k : Nat) (l : List Int) (h : l.length ≤ 2) : kindlingref03_SameInts.f (k + 3) l l = some true := by
  unfold kindlingref03_SameInts.f
  rw [if_pos rfl, show k + 3 = (k + 2 - l.length) + l.length + 1 by omega]
  exact same_from l l.length 0 _ (by omega) h
theorem w01 : wrap64 ((0 : Int) + 1) = 1 := by unfold wrap64; omega
theorem w12 : wrap64 ((1 : Int) + 1) = 2 := by unfold wrap64; omega
theorem uses_l1 (k : Nat) (l : List Int) (h : l.length ≤ 2) : kindlinglaw03_IsaUses.l1 (k + 3) (l.map fun x => wrap64 (x + 100)) l 0 = some true := by
  match l, h with
  | [], _ =>
    rw [kindlinglaw03_IsaUses.l1, if_neg (by simp), known_f]; rfl
  | [x], _ =>
    show kindlinglaw03_IsaUses.l1 (k + 3) [wrap64 (x + 100)] [x] 0 = some true
    rw [kindlinglaw03_IsaUses.l1, if_pos (by simp), if_pos (by decide), if_pos (by simp), if_pos (by rfl), w01]
    show kindlinglaw03_IsaUses.l1 (k + 2) [wrap64 (x + 100)] [x] 1 = some true
    rw [kindlinglaw03_IsaUses.l1, if_neg (by simp), known_f]; rfl
  | [x, y], _ =>
    show kindlinglaw03_IsaUses.l1 (k + 3) [wrap64 (x + 100), wrap64 (y + 100)] [x, y] 0 = some true
    rw [kindlinglaw03_IsaUses.l1, if_pos (by simp), if_pos (by decide), if_pos (by simp), if_pos (by rfl), w01]
    show kindlinglaw03_IsaUses.l1 (k + 2) [wrap64 (x + 100), wrap64 (y + 100)] [x, y] 1 = some true
    rw [kindlinglaw03_IsaUses.l1, if_pos (by simp), if_pos (by decide), if_pos (by simp), if_pos (by rfl), w12]
    show kindlinglaw03_IsaUses.l1 (k + 1) [wrap64 (x + 100), wrap64 (y + 100)] [x, y] 2 = some true
    rw [kindlinglaw03_IsaUses.l1, if_neg (by simp), known_f]; rfl
theorem uses_mid (k : Nat) (op a b c n : Int) (i : Int) (hi : i = ((RD op a b c n).length : Int)) :
    kindlinglaw03_IsaUses.l0 (k + 20) ((RD op a b c n).map fun x => wrap64 (x + 100)) (WR op a b c n) i op a b c n = some true := by
  have h1 := RD_small op a b c n
  have h2 := WR_small op a b c n
  rw [kindlinglaw03_IsaUses.l0, List.length_map, if_neg (by omega), show k + 19 = k + 17 + 2 from rfl, ireads_f, Option.bind_some, show k + 17 + 2 = k + 7 + 12 from rfl, rreads_f, Option.bind_some, if_pos rfl, rwrites_f,
    show k + 7 + 12 = k + 16 + 3 from rfl, same_f (k + 16) _ h1, Option.bind_some, if_pos rfl, Option.bind_some, same_f (k + 16) _ h2, Option.bind_some, show k + 16 + 3 = k + 18 + 1 from rfl, kindlinglaw03_IsaUses.j1, if_neg (by decide), show k + 18 = k + 15 + 3 from rfl]
  exact uses_l1 (k + 15) _ h1
theorem uses_l0 (k : Nat) (op a b c n : Int) (l : List Int) (hl : RD op a b c n = l) (h : l.length ≤ 2) : kindlinglaw03_IsaUses.l0 (k + 22) l (WR op a b c n) 0 op a b c n = some true := by
  match l, h with
  | [], _ =>
    have := uses_mid (k + 2) op a b c n 0 (by rw [hl]; rfl)
    rw [hl] at this
    exact this
  | [x], _ =>
    rw [kindlinglaw03_IsaUses.l0, if_pos (by simp), if_pos (by decide), w01]
    have := uses_mid (k + 1) op a b c n 1 (by rw [hl]; rfl)
    rw [hl] at this
    exact this
  | [x, y], _ =>
    rw [kindlinglaw03_IsaUses.l0, if_pos (by simp), if_pos (by decide), w01]
    show kindlinglaw03_IsaUses.l0 (k + 21) [wrap64 (x + 100), y] (WR op a b c n) 1 op a b c n = some true
    rw [kindlinglaw03_IsaUses.l0, if_pos (by simp), if_pos (by decide), w12]
    have := uses_mid k op a b c n 2 (by rw [hl]; rfl)
    rw [hl] at this
    exact this
theorem IsaUses (op a b c n : Int) : ∃ k, kindlinglaw03_IsaUses.f k op a b c n = some true := by
  refine ⟨0 + 22, ?_⟩
  unfold kindlinglaw03_IsaUses.f
  rw [show 0 + 22 = 20 + 2 from rfl, ireads_f, Option.bind_some, show 20 + 2 = 21 + 1 from rfl, iwrites_f, Option.bind_some]
  exact uses_l0 0 op a b c n _ rfl (RD_small op a b c n)
end Go.Proofs.Ytebjdjdlpmplpaa.Pure
