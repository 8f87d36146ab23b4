/- The document's memory told by the same lists of objects as the program's. -/
import Derived.Test.YtjccaojlldkmpaaRm4
namespace Go.Proofs.Ytjccaojlldkmpaa.Rm
open Go.RowKit Go.Proofs.YtjccaojlldkmpaaW.PrintWords Go.Proofs.YtjccaojlldkmpaaW.PrintLast Go.Proofs.YtjccaojlldkmpaaW.PrintMore
open Mem (Fr O flat pos heads pos_all pos_inj pos_succ pos_head flat_len len_le flat_append flat_one row_length newO putO putO_length putO_get pos_lens lens_put putO_lens_len flat_new newO_len)
open Hf (rightB right_parts)
open Pa
set_option linter.unusedSimpArgs false
set_option linter.unusedVariables false
set_option maxRecDepth 100000
variable {S : Nat → Prop} {w w' W : World} {g c : Nat} {vn vo v : Value} {rs : RS} {l : List P5}
/-- Objects as the document lists them. -/
def ros (f : Int) (os : List O) (tz : Nat → Int) : List S87 := os.mapIdx fun i o => ⟨f + (pos os i : Int), o.kind, o.tag, o.fs, tz i⟩
def nowhere : Nat → Int := fun _ => 0
theorem ros_length (f : Int) (os : List O) (tz : Nat → Int) : (ros f os tz).length = os.length := by simp [ros]
theorem ros_get (f : Int) (os : List O) (tz : Nat → Int) (i : Nat) (h : i < (ros f os tz).length) (h' : i < os.length) : (ros f os tz)[i] = ⟨f + (pos os i : Int), os[i].kind, os[i].tag, os[i].fs, tz i⟩ := by simp [ros]
theorem used_ros (f : Int) (os : List O) (tz : Nat → Int) : used (ros f os tz) = (flat os).length := by
  rw [flat_len]
  unfold used
  congr 1
  apply List.ext_getElem
  · simp [ros]
  · intro i h1 h2
    have hi : i < os.length := by simpa using h2
    simp only [List.getElem_map]
    rw [ros_get f os tz i (by rw [ros_length]; exact hi) hi]
theorem pos_le (os : List O) (e : O) (i : Nat) (h : i ≤ os.length) : pos (os ++ [e]) i = pos os i := by
  unfold pos
  rw [List.take_append_of_le_length h]
theorem ros_snoc (f : Int) (os : List O) (e : O) (tz : Nat → Int) : ros f (os ++ [e]) tz = ros f os tz ++ [⟨f + ((flat os).length : Int), e.kind, e.tag, e.fs, tz os.length⟩] := by
  apply List.ext_getElem
  · simp [ros]
  · intro i h1 h2
    have hi : i < (os ++ [e]).length := by rw [ros_length] at h1; exact h1
    rw [ros_get f _ tz i h1 hi]
    by_cases h : i < os.length
    · rw [List.getElem_append_left (show i < (ros f os tz).length by rw [ros_length]; exact h), ros_get f os tz i _ h, pos_le os e i (by omega), List.getElem_append_left h]
    · have e2 : i = os.length := by simp at hi; omega
      subst e2
      rw [List.getElem_append_right (show (ros f os tz).length ≤ os.length by rw [ros_length]; exact Nat.le_refl _), pos_le os e _ (Nat.le_refl _), pos_all]
      simp [ros_length]
theorem ros_put (f : Int) (os : List O) (tz : Nat → Int) (k i : Nat) (x : Int) (hk : k < os.length) : ros f (putO os k i x) tz = (ros f os tz).set k ⟨f + (pos os k : Int), os[k].kind, os[k].tag, os[k].fs.set i x, tz k⟩ := by
  apply List.ext_getElem
  · rw [List.length_set, ros_length, ros_length, putO_length]
  · intro j h1 h2
    have hj : j < os.length := by rw [ros_length, putO_length] at h1; exact h1
    rw [ros_get f _ tz j h1 (by rw [putO_length]; exact hj), pos_lens (lens_put os k i x), putO_get os k i x j (by rw [putO_length]; exact hj) hj, List.getElem_set]
    by_cases e : k = j
    · subst e
      rw [if_pos rfl, if_pos rfl]
      rfl
    · rw [if_neg e, if_neg e, ros_get f os tz j _ hj]
structure DocL (S : Nat → Prop) (w : World) (g : Nat) (vn vo : Value) (rs : RS) (size half : Int) (os olds : List O) (tz : Nat → Int) : Prop where
  lies : Lies S w g vn vo rs
  sz : rs.size = size
  hf : rs.half = half
  now : rs.now.map P5.o = ros (1 + half * size) os nowhere
  old : rs.old.map P5.o = ros (1 + (1 - half) * size) olds tz
  bs : 64 ≤ size ∧ size ≤ 65536
  bh : half = 0 ∨ half = 1
  fit : ((flat os).length : Int) ≤ size
  ofit : ((flat olds).length : Int) ≤ size
/-- Block g is the document's memory: its size, the half in use, the objects, the old ones and where they went. -/
def Doc (S : Nat → Prop) (w : World) (g : Nat) (size half : Int) (os olds : List O) (tz : Nat → Int) : Prop := ∃ vn vo rs, DocL S w g vn vo rs size half os olds tz
variable {size half : Int} {os olds : List O} {tz : Nat → Int}
theorem DocL.fits (D : DocL S w g vn vo rs size half os olds tz) : Fit rs where
  u := by rw [D.now, used_ros]; have := D.fit; have := D.bs; omega
  ou := by rw [D.old, used_ros]; have := D.ofit; have := D.bs; omega
  s := by rw [D.sz]; have := D.bs; omega
  h := by rw [D.hf]; exact D.bh
theorem DocL.len (D : DocL S w g vn vo rs size half os olds tz) : rs.now.length = os.length := by
  have := congrArg List.length D.now
  rwa [List.length_map, ros_length] at this
theorem DocL.olen (D : DocL S w g vn vo rs size half os olds tz) : rs.old.length = olds.length := by
  have := congrArg List.length D.old
  rwa [List.length_map, ros_length] at this
theorem DocL.at (D : DocL S w g vn vo rs size half os olds tz) (i : Nat) (h : i < rs.now.length) (h' : i < os.length) : rs.now[i].o = ⟨1 + half * size + (pos os i : Int), os[i].kind, os[i].tag, os[i].fs, 0⟩ := by
  have e : (rs.now.map P5.o)[i]? = (ros (1 + half * size) os nowhere)[i]? := by rw [D.now]
  rw [List.getElem?_eq_getElem (by simpa using h), List.getElem?_eq_getElem (by rw [ros_length]; exact h'), List.getElem_map, ros_get _ _ _ i _ h'] at e
  exact Option.some.inj e
theorem DocL.oat (D : DocL S w g vn vo rs size half os olds tz) (i : Nat) (h : i < rs.old.length) (h' : i < olds.length) : rs.old[i].o = ⟨1 + (1 - half) * size + (pos olds i : Int), olds[i].kind, olds[i].tag, olds[i].fs, tz i⟩ := by
  have e : (rs.old.map P5.o)[i]? = (ros (1 + (1 - half) * size) olds tz)[i]? := by rw [D.old]
  rw [List.getElem?_eq_getElem (by simpa using h), List.getElem?_eq_getElem (by rw [ros_length]; exact h'), List.getElem_map, ros_get _ _ _ i _ h'] at e
  exact Option.some.inj e
theorem DocL.alone (D : DocL S w g vn vo rs size half os olds tz) : Alone rs.now := fun i j hi hj e => by
  have hl := D.len
  rw [D.at i hi (by omega), D.at j hj (by omega)] at e
  exact pos_inj (os := os) (by omega) (by omega) (by have e' : (1 : Int) + half * size + (pos os i : Int) = 1 + half * size + (pos os j : Int) := e; omega)
theorem DocL.os_len (D : DocL S w g vn vo rs size half os olds tz) : os.length ≤ 65536 := by
  have := len_le os
  have := D.fit
  have := D.bs
  omega
theorem DocL.olds_len (D : DocL S w g vn vo rs size half os olds tz) : olds.length ≤ 65536 := by
  have := len_le olds
  have := D.ofit
  have := D.bs
  omega
theorem DocL.next (D : DocL S w g vn vo rs size half os olds tz) : next rs = 1 + half * size + ((flat os).length : Int) := by
  unfold Rm.next
  rw [D.now, used_ros, D.sz, D.hf]
theorem DocL.free (D : DocL S w g vn vo rs size half os olds tz) : free rs = size - ((flat os).length : Int) := by
  unfold Rm.free
  rw [D.now, used_ros, D.sz]
theorem Doc.keep (D : Doc S w g size half os olds tz) {T : Nat → Prop} (fr : Fr T w w') (hT : ∀ k, S k → ¬ T k) : Doc S w' g size half os olds tz := by
  obtain ⟨vn, vo, rs, D⟩ := D
  exact ⟨vn, vo, rs, { D with lies := D.lies.keep fr hT }⟩
theorem Doc.more (D : Doc S w g size half os olds tz) {T : Nat → Prop} (h : ∀ k, S k → T k) : Doc T w g size half os olds tz := by
  obtain ⟨vn, vo, rs, D⟩ := D
  exact ⟨vn, vo, rs, { D with lies := D.lies.more h }⟩
theorem Doc.bound (D : Doc S w g size half os olds tz) : Doc (fun k => S k ∧ k < w.heap.size) w g size half os olds tz := by
  obtain ⟨vn, vo, rs, D⟩ := D
  exact ⟨vn, vo, rs, { D with lies := D.lies.bound }⟩
theorem Doc.drawn (D : Doc S w g size half os olds tz) (hd : Drawn0 w w') : Doc S w' g size half os olds tz := D.keep (T := fun _ => False) (Fr.of_drawn hd) (fun _ _ h => h)
theorem Doc.below (D : Doc S w g size half os olds tz) (hb : Below w.heap.size w w') : Doc S w' g size half os olds tz := D.keep (T := fun _ => False) (Fr.of_below hb) (fun _ _ h => h)
/-! ### The calls -/
theorem Doc.alloc (D : Doc S w g size half os olds tz) (k : Int) (n q : Nat) (hr : rightB k n q = true) (hfree : ((flat os).length : Int) + n + 1 ≤ size) :
    Calls Try.prog 47 #[.pointer (some ⟨g, 0, none⟩), .int .i64 k, .int .i64 n, .int .i64 q] w fun e w' => e = .returned (.tuple #[.int .i64 (1 + half * size + ((flat os).length : Int)), .int .i64 0]) ∧
      Doc (fun k => S k ∨ w.heap.size ≤ k) w' g size half (os ++ [newO k n q]) olds tz ∧ Fr S w w' := by
  obtain ⟨vn, vo, rs, D⟩ := D
  obtain ⟨p1, p2, p3, p4, p5, p6⟩ := right_parts hr
  refine (alloc_any D.lies D.fits k n q hr (by rw [D.free]; omega) (by rw [D.len]; exact D.os_len)).mono ?_
  rintro e w' ⟨rfl, vn', v, hL, fr⟩
  refine ⟨by rw [D.next], ⟨vn', vo, _, hL, D.sz, D.hf, ?_, D.old, D.bs, D.bh, ?_, D.ofit⟩, fr⟩
  · show (rs.now ++ [newP rs k n q v]).map P5.o = _
    rw [List.map_append, D.now, ros_snoc]
    show _ ++ [(newP rs k n q v).o] = _
    unfold newP
    rw [D.next]
    rfl
  · rw [flat_new _ _ _ _ (by omega)]
    omega
theorem Doc.store (D : Doc S w g size half os olds tz) (k i : Nat) (x : Int) (hk : k < os.length) (hi : i < os[k].fs.length) :
    Calls Try.prog 48 #[.pointer (some ⟨g, 0, none⟩), .int .i64 (1 + half * size + (pos os k : Int)), .int .i64 (i : Int), .int .u64 x] w fun e w' => e = .returned (.int .i64 0) ∧
      Doc S w' g size half (putO os k i x) olds tz ∧ Fr S w w' := by
  obtain ⟨vn, vo, rs, D⟩ := D
  have hl := D.len
  have hkr : k < rs.now.length := by omega
  have e := D.at k hkr hk
  have hfs : rs.now[k].o.f3 = os[k].fs := by rw [e]
  have hpl := pos_head os k hk
  have hft := D.fit
  have hbs := D.bs
  refine (store_any D.lies (by rw [D.len]; exact D.os_len) k hkr D.alone _ (by rw [e]) i (by rw [hfs]; exact hi) (by rw [hfs]; omega) x).mono ?_
  rintro e2 w' ⟨rfl, hL, fr⟩
  refine ⟨rfl, ⟨vn, vo, _, hL, D.sz, D.hf, ?_, D.old, D.bs, D.bh, ?_, D.ofit⟩, fr⟩
  · show (rs.now.set k ⟨{ rs.now[k].o with f3 := rs.now[k].o.f3.set i x }, rs.now[k].v⟩).map P5.o = _
    rw [List.map_set, D.now, ros_put _ _ _ _ _ _ hk]
    congr 1
    show ({ rs.now[k].o with f3 := rs.now[k].o.f3.set i x } : S87) = _
    rw [e]
    rfl
  · rw [putO_lens_len]
    exact D.fit
theorem Doc.next (D : Doc S w g size half os olds tz) : Calls Try.prog 61 #[.pointer (some ⟨g, 0, none⟩)] w fun e w' => e = .returned (.int .i64 (1 + half * size + ((flat os).length : Int))) ∧ Drawn0 w w' := by
  obtain ⟨vn, vo, rs, D⟩ := D
  rw [← D.next]
  exact next_any D.lies D.fits
theorem Doc.free (D : Doc S w g size half os olds tz) : Calls Try.prog 62 #[.pointer (some ⟨g, 0, none⟩)] w fun e w' => e = .returned (.int .i64 (size - ((flat os).length : Int))) ∧ Drawn0 w w' := by
  obtain ⟨vn, vo, rs, D⟩ := D
  rw [← D.free]
  exact free_any D.lies D.fits
end Go.Proofs.Ytjccaojlldkmpaa.Rm
