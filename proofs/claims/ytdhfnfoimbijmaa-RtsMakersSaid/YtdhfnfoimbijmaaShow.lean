/- rts.Show of a text, by the type string. -/
import Derived.Test.YtdhfnfoimbijmaaGetT
import Derived.Test.YtdhfnfoimbijmaaPa4
namespace Go.Proofs.Ytdhfnfoimbijmaa.Mem
open Go.RowKit Go.Shelf Go.Proofs.YtdhfnfoimbijmaaW.PrintWords Go.Proofs.YtdhfnfoimbijmaaW.PrintLast Go.Proofs.YtdhfnfoimbijmaaW.PrintMore
open Hf (rightB hdr headOf partsOf)
open Num (bts word)
set_option linter.unusedSimpArgs false
set_option linter.unusedVariables false
variable {S : Nat → Prop} {w w' : World} {g mb n B : Nat} {st : St} {vw vh ow oh : Value}
theorem info5 : (Try.prog.info? 5).map (fun i => (i.zero, i.size, i.bytes)) = some (some (.int .u8 0), 1, 1) := by kernel_rfl
/-- A writer of values: its memory, its makers, and what is written. -/
structure Sh (base : Nat) (W : World) (B : Nat) (vm vk vb : Value) (xs : List Int) : Prop where
  blk : W.heap[B]? = some (.cells #[vm, vk, vb] 99 (0, 0))
  row : W.ownsRow base 5 1 vb xs.length (nums .u8 xs)
  hB : base ≤ B
theorem Sh.slice {base : Nat} {W : World} {B : Nat} {vm vk vb : Value} {xs : List Int} (h : Sh base W B vm vk vb xs) : ∃ A c, vb = .slice A xs.length c := own_slice h.row
/-- A block of another type is not the row's. -/
theorem not_row {W : World} {B t : Nat} {cs : Array Value} {e : TypeId} (h : W.heap[B]? = some (.cells cs t (0, 0))) (hte : t ≠ e) {base size k : Nat} {v : Value} {xs : List Value} (hr : W.ownsRow base e size v k xs) : some B ≠ v.ownBlock := by
  rcases hr.2 with ⟨rfl, _⟩ | ⟨g, cap, cur, rfl, _, hgb, _⟩
  · simp [Value.ownBlock]
  · intro e'
    obtain rfl : B = g := by simpa [Value.ownBlock] using e'
    rw [h] at hgb
    cases hgb
    exact hte rfl
theorem own_below' {W W' : World} {base n : Nat} {e : TypeId} {size : Nat} {v : Value} {xs : List Value} (h : W.ownsRow base e size v n xs) (hb : Below W.heap.size W W') : W'.ownsRow base e size v n xs :=
  ⟨h.1, by
    rcases h.2 with h2 | ⟨g, cap, cur, rfl, hg, hh, r⟩
    · exact .inl h2
    · exact .inr ⟨g, cap, cur, rfl, hg, (hb.block g (blk_lt hh)).trans hh, r⟩⟩
theorem Sh.below {base : Nat} {W W' : World} {B : Nat} {vm vk vb : Value} {xs : List Int} (h : Sh base W B vm vk vb xs) (hb : Below W.heap.size W W') : Sh base W' B vm vk vb xs :=
  ⟨(hb.block B (blk_lt h.blk)).trans h.blk, own_below' h.row hb, h.hB⟩
set_option maxHeartbeats 4000000 in
set_option maxRecDepth 100000 in
theorem full_any {base : Nat} {W : World} {B : Nat} {vm vk vb : Value} {xs : List Int} (h : Sh base W B vm vk vb xs) :
    Calls Try.prog 56 #[.pointer (some ⟨B, 0, none⟩)] W fun e w' => e = .returned (.bool (decide ((xs.length : Int) > 500))) ∧ w' = W := by
  obtain ⟨A, c, rfl⟩ := h.slice
  have hc2 : W.cell? ⟨B, 2, none⟩ = some (.slice A xs.length c) := (blk_cell h.blk 2).trans rfl
  have hz2 := blk_frozen h.blk 2
  go_enter Try.func56, Try.ntmps56
  go_wp2_with fail
  go_ret
  exact ⟨rfl, rfl⟩
set_option maxHeartbeats 4000000 in
set_option maxRecDepth 100000 in
theorem put_str {base : Nat} {W : World} {B : Nat} {vm vk vb : Value} {xs : List Int} (h : Sh base W B vm vk vb xs) (t : ByteArray) (hx : xs.length ≤ 500) (ht : t.size ≤ 1000000) (hbase : base ≤ W.heap.size) :
    Calls Try.prog 82 #[.pointer (some ⟨B, 0, none⟩), .string t] W fun e w' => (∃ v, e = .returned v) ∧ (∃ vb', Sh base w' B vm vk vb' (xs ++ bytesOf t)) ∧ Below base W w' := by
  obtain ⟨A, c, rfl⟩ := h.slice
  have hc2 : W.cell? ⟨B, 2, none⟩ = some (.slice A xs.length c) := (blk_cell h.blk 2).trans rfl
  have hz2 := blk_frozen h.blk 2
  have hle : decide ((xs.length : Int) ≤ 500) = true := decide_eq_true (by omega)
  go_enter Try.func82, Try.ntmps82
  go_wp2_with ((with_reducible refine gate_builtin (b := .append) (xs := #[.tmp 14, .tmp 15]) rfl ?_); at_builtin; refine print_append_str (w0 := W) base rfl (.tmp 14) (.tmp 15) 97 9 5 rfl Try.underlying97 Try.underlying9 info5 (.slice A xs.length c) xs t rfl rfl h.row (Below.refl _ _) hbase (by omega) ?_; intro v1 w1 hr1 hb1 hg1; have hblk1 := blk_grown h.blk hg1 (not_row h.blk (by decide) h.row); have hc21 : w1.cell? ⟨B, 2, none⟩ = some (.slice A xs.length c) := (blk_cell hblk1 2).trans rfl; have hz21 := blk_frozen hblk1 2; obtain ⟨A1, c1, rfl⟩ : ∃ A1 c1, v1 = .slice A1 (xs ++ bytesOf t).length c1 := own_slice hr1)
  rw [List.length_append] at hr1
  have hblk2 := blk_put hblk1 2 (.slice A1 (xs.length + (bytesOf t).length) c1) rfl
  have hrow2 := own_setCell (p := ⟨B, 2, none⟩) hr1 (not_row hblk1 (by decide) hr1) (.slice A1 (xs.length + (bytesOf t).length) c1)
  go_end0
  exact ⟨⟨_, rfl⟩, ⟨_, hblk2, by rw [List.length_append]; exact hrow2, h.hB⟩, hb1.setCell (p := ⟨B, 2, none⟩) h.hB _⟩
set_option maxHeartbeats 4000000 in
set_option maxRecDepth 100000 in
theorem value_text (M : IsMem S w g st) (i : Nat) (hi : i < st.os.length) (s : ByteArray) (hs : st.os[i] = textO s) (a : Int) (ha : a = st.f + (pos st.os i : Int)) (q : ByteArray) (K : Nat) (hq : Pa.rts_Quote.f K s = some q) (hqs : q.size ≤ 1000000)
    {base : Nat} {vk vb : Value} {nm : ByteArray} (h : Sh base w B (.pointer (some ⟨g, 0, none⟩)) vk vb []) (hbase : base ≤ w.heap.size) :
    Calls Try.prog 55 #[.pointer (some ⟨B, 0, none⟩), .int .u64 (2 * a), .agg #[.int .i64 2, .int .i64 2, .string nm, .slice none 0 0], .int .i64 1] w fun e w' => (∃ v, e = .returned v) ∧ (∃ vb', Sh base w' B (.pointer (some ⟨g, 0, none⟩)) vk vb' (bytesOf q)) ∧ Below base w w' := by
  have hlb : B < w.heap.size := blk_lt h.blk
  have hBt : Below w.heap.size w (w.alloc (.cells #[.int .i64 2, .int .i64 2, .string nm, .slice none 0 0] 26)) := (Below.refl _ w).alloc (Nat.le_refl _) _
  have ht := h.below hBt
  have hbt : (w.alloc (.cells #[.int .i64 2, .int .i64 2, .string nm, .slice none 0 0] 26)).heap[w.heap.size]? = some (.cells #[.int .i64 2, .int .i64 2, .string nm, .slice none 0 0] 26 (0, 0)) := blk_new _ _
  have hk0 : (w.alloc (.cells #[.int .i64 2, .int .i64 2, .string nm, .slice none 0 0] 26)).cell? ⟨w.heap.size, 0, none⟩ = some (.int .i64 2) := (blk_cell hbt 0).trans rfl
  have hk1 : (w.alloc (.cells #[.int .i64 2, .int .i64 2, .string nm, .slice none 0 0] 26)).cell? ⟨w.heap.size, 1, none⟩ = some (.int .i64 2) := (blk_cell hbt 1).trans rfl
  have hm0 : (w.alloc (.cells #[.int .i64 2, .int .i64 2, .string nm, .slice none 0 0] 26)).cell? ⟨B, 0, none⟩ = some (.pointer (some ⟨g, 0, none⟩)) := (blk_cell ht.blk 0).trans rfl
  have hf0 := full_any ht
  rw [show decide ((([] : List Int).length : Int) > 500) = false from by decide] at hf0
  have hG := get_text (M.below hBt) i hi s hs a ha
  clear ha hs
  go_enter Try.func55, Try.ntmps55
  go_wp2_with fail
  (with_reducible refine Calls.mono hf0 ?_)
  rintro e w1 ⟨rfl, rfl⟩
  clear hf0
  go_wp2_with fail
  (with_reducible refine Calls.mono hG ?_)
  rintro e w2 ⟨rfl, hb2⟩
  have hB2 := hBt.trans (hb2.mono hBt.size)
  have h2 := ht.below hb2
  clear hG ht hb2 hk0 hk1 hm0 hbt hBt M
  go_wp2_with fail
  (with_reducible refine Calls.mono (Pa.rts_Quote.calls K s q _ hq) ?_)
  rintro e w3 ⟨rfl, hb3⟩
  have hB3 := hB2.trans (hb3.mono hB2.size)
  have h3 := h2.below hb3
  clear h2 hb3 hB2
  have hP := put_str h3 q (by simp) hqs (Nat.le_trans hbase hB3.size)
  go_wp2_with fail
  (with_reducible refine Calls.mono hP ?_)
  rintro e w4 ⟨⟨v4, rfl⟩, ⟨vb', h4⟩, hb4⟩
  clear hP h3
  go_wp2_with fail
  go_ret
  exact ⟨⟨_, rfl⟩, ⟨vb', by simpa using h4⟩, (hB3.mono hbase).trans hb4⟩
set_option maxHeartbeats 4000000 in
set_option maxRecDepth 100000 in
theorem show_text (M : IsMem S w g st) (i : Nat) (hi : i < st.os.length) (s : ByteArray) (hs : st.os[i] = textO s) (a : Int) (ha : a = st.f + (pos st.os i : Int)) (q : ByteArray) (K : Nat) (hq : Pa.rts_Quote.f K s = some q) (hqs : q.size ≤ 500) (nm : ByteArray) :
    Calls Try.prog 22 #[.pointer (some ⟨g, 0, none⟩), .int .u64 (2 * a), .agg #[.int .i64 2, .int .i64 2, .string nm, .slice none 0 0], .slice none 0 0] w fun e w' => e = .returned (.string q) ∧ Below w.heap.size w w' := by
  have hB1 : Below w.heap.size w (w.alloc (.cells #[.int .i64 2, .int .i64 2, .string nm, .slice none 0 0] 26)) := (Below.refl _ w).alloc (Nat.le_refl _) _
  have hbt : (w.alloc (.cells #[.int .i64 2, .int .i64 2, .string nm, .slice none 0 0] 26)).heap[w.heap.size]? = some (.cells #[.int .i64 2, .int .i64 2, .string nm, .slice none 0 0] 26 (0, 0)) := blk_new _ _
  obtain ⟨w1, hw1⟩ : ∃ w1, w1 = w.alloc (.cells #[.int .i64 2, .int .i64 2, .string nm, .slice none 0 0] 26) := ⟨_, rfl⟩
  have hsz : w1.heap.size = w.heap.size + 1 := by rw [hw1, World.size_alloc]
  rw [← hw1] at hB1 hbt
  have hB2 := hB1.alloc (by omega) (.cells #[.pointer (some ⟨g, 0, none⟩), .slice none 0 0, .slice none 0 0] 99)
  have h2 : Sh w.heap.size (w1.alloc (.cells #[.pointer (some ⟨g, 0, none⟩), .slice none 0 0, .slice none 0 0] 99)) (w.heap.size + 1) (.pointer (some ⟨g, 0, none⟩)) (.slice none 0 0) (.slice none 0 0) [] := by
    refine ⟨?_, World.ownsRow_nil _ _ _ _, by omega⟩
    rw [← hsz]
    exact blk_new _ _
  have hV := value_text (M.below hB2) i hi s hs a ha q K hq (by omega) (nm := nm) h2 hB2.size
  rw [hw1] at hV
  clear ha hs M h2 hsz
  go_enter Try.func22, Try.ntmps22
  go_wp2_with fail
  (with_reducible refine Calls.mono hV ?_)
  rintro e w3 ⟨⟨v, rfl⟩, ⟨vb, h3⟩, hb3⟩
  rw [hw1] at hB2
  have hB3 := hB2.trans hb3
  have hF := full_any h3
  rw [show decide (((bytesOf q).length : Int) > 500) = false from decide_eq_false (by rw [bytesOf_length]; omega)] at hF
  obtain ⟨A, c, rfl⟩ := h3.slice
  have hcv := own_string (P := Try.prog) (src := 97) (dst := 9) Try.underlying97 Try.underlying5 Try.underlying9 h3.row
  have hstr : strOfNums (bytesOf q) = q := Fa.str_bts q
  rw [hstr] at hcv
  have hc2 : w3.cell? ⟨w.heap.size + 1, 2, none⟩ = some (.slice A (bytesOf q).length c) := (blk_cell h3.blk 2).trans rfl
  clear hV hB2 hB1 hbt hw1 hb3
  go_wp2_with fail
  (with_reducible refine Calls.mono hF ?_)
  rintro e w4 ⟨rfl, rfl⟩
  clear hF
  go_wp2_with fail
  go_ret
  exact ⟨rfl, hB3⟩
end Go.Proofs.Ytdhfnfoimbijmaa.Mem
