/-
  A DECODER'S BLOCK, AND THE SHORT WALKS: New, Stats, Inside.
-/
import Derived.Test.YtpfilomckijmkaaHdlcMath
import Derived.Test.YtpfilomckijmkaaCopy
import Derived.Handy
namespace Go.Proofs.Ytpfilomckijmkaa
open Go.RowKit

/-- no common block -/
def Apart (a b : Value) : Prop := ∀ k, a.ownBlock = some k → b.ownBlock ≠ some k
theorem Apart.symm {a b : Value} (h : Apart a b) : Apart b a := fun k e e' => h k e' e
theorem Apart.anew {w : World} {a b b' : Value} (h : Apart a b) (hb : Anew w b b') (ha : ∀ k, a.ownBlock = some k → k < w.heap.size) : Apart a b' := by
  intro k e e'
  rcases hb k e' with h1 | h1
  · exact h k e h1
  · have := ha k e
    omega
theorem Apart.nil (a : Value) : Apart a (.slice none 0 0) := fun _ _ e => by simp [Value.ownBlock] at e

/-- a decoder's cells -/
def dcs (d : Hdl.Dec) (I T : Value) : Array Value := #[.bool d.hunts, I, .int .i64 d.met.good, .int .i64 d.met.bad, .int .i64 d.met.short, .int .i64 d.met.long, .int .i64 d.met.broken, T]
/-- what has been told: cells that are slices, each one's bytes apart from the bytes that are gathered -/
def Told (w : World) (B : Nat) (I : Value) (xs : List Value) (told : List (List UInt8)) : Prop :=
  xs.length = told.length ∧ ∀ (j : Nat) (l : List UInt8), told[j]? = some l → ∃ (A : Option Addr) (c : Nat), xs[j]? = some (Value.slice A l.length c) ∧ Sl w B 5 (.slice A l.length c) l.length (bs l) ∧ Apart (.slice A l.length c) I
/-- a decoder's block -/
structure Dc (w : World) (B C g : Nat) (d : Hdl.Dec) (I T : Value) (xs : List Value) (told : List (List UInt8)) : Prop where
  low : B ≤ g
  cow : C ≤ w.heap.size
  obj : w.heap[g]? = some (.cells (dcs d I T) 49 (0, 0))
  hi : Sl w B 5 I d.inn.length (bs d.inn)
  ht : Sl w B 25 T told.length xs
  tl : Told w C I xs told

theorem Told.nil (w : World) (B : Nat) (I : Value) : Told w B I [] [] := ⟨rfl, fun j l h => by simp at h⟩
theorem Told.kept {w w' : World} {C : Nat} {I I' : Value} {xs : List Value} {told : List (List UInt8)} (h : Told w C I xs told) (hk : ∀ k c, w.heap[k]? = some (.cells c 5 (0, 0)) → I.ownBlock ≠ some k → w'.heap[k]? = w.heap[k]?) (ha : Anew w I I') : Told w' C I' xs told := by
  refine ⟨h.1, fun j l hj => ?_⟩
  obtain ⟨A, c, hx, hs, hap⟩ := h.2 j l hj
  refine ⟨A, c, hx, hs.kept fun k e => ?_, hap.anew ha fun k e => (hs.lt k e).2⟩
  obtain ⟨cur, hc⟩ := hs.type k e
  exact hk k cur hc (hap k e)

section
variable {w w' : World} {B C g : Nat} {d d' : Hdl.Dec} {I T : Value} {xs : List Value} {told : List (List UInt8)}
theorem Dc.lt (h : Dc w B C g d I T xs told) : g < w.heap.size := (Array.getElem?_eq_some_iff.1 h.obj).1
theorem Dc.cell (h : Dc w B C g d I T xs told) (j : Nat) : w.cell? ⟨g, j, none⟩ = (dcs d I T)[j]? := cell_of_cells h.obj j
theorem Dc.fr (h : Dc w B C g d I T xs told) (j : Nat) : w.frozen? ⟨g, j, none⟩ = false := frozen_of_row w g j _ _ h.obj
theorem Dc.ine (h : Dc w B C g d I T xs told) : I.ownBlock ≠ some g := by
  intro e
  obtain ⟨cur, hc⟩ := h.hi.type g e
  exact ty_ne hc h.obj (by decide) rfl
theorem Dc.tne (h : Dc w B C g d I T xs told) : T.ownBlock ≠ some g := by
  intro e
  obtain ⟨cur, hc⟩ := h.ht.type g e
  exact ty_ne hc h.obj (by decide) rfl
theorem Dc.it (h : Dc w B C g d I T xs told) : Apart I T := by
  intro k e e'
  obtain ⟨cur, hc⟩ := h.hi.type k e
  obtain ⟨cur', hc'⟩ := h.ht.type k e'
  exact ty_ne hc hc' (by decide) rfl
/-- nothing of the decoder's has been written -/
theorem Dc.below (h : Dc w B C g d I T xs told) (hb : Below w.heap.size w w') : Dc w' B C g d I T xs told :=
  ⟨h.low, Nat.le_trans h.cow hb.size, (hb.block g h.lt).trans h.obj, h.hi.kept fun k e => hb.block k (h.hi.lt k e).2, h.ht.kept fun k e => hb.block k (h.ht.lt k e).2, h.tl.kept (fun k _ e _ => hb.block k (Array.getElem?_eq_some_iff.1 e).1) (.refl _ _)⟩
/-- the counts, or whether it hunts, have been written -/
theorem Dc.same (h : Dc w B C g d I T xs told) (ho : w'.heap[g]? = some (.cells (dcs d' I T) 49 (0, 0))) (hk : Kept (fun k => k = g) w w') (hd : d'.inn = d.inn) : Dc w' B C g d' I T xs told :=
  ⟨h.low, Nat.le_trans h.cow hk.size, ho, by rw [hd]; exact h.hi.kept fun k e => hk.block k (h.hi.lt k e).2 (by rintro rfl; exact h.ine e), h.ht.kept fun k e => hk.block k (h.ht.lt k e).2 (by rintro rfl; exact h.tne e),
    h.tl.kept (fun k _ e _ => hk.block k (Array.getElem?_eq_some_iff.1 e).1 (by rintro rfl; exact ty_ne e h.obj (by decide) rfl)) (.refl _ _)⟩
/-- what was gathered is let go -/
theorem Dc.empty (h : Dc w B C g d I T xs told) (ho : w'.heap[g]? = some (.cells (dcs d' (.slice none 0 0) T) 49 (0, 0))) (hk : Kept (fun k => k = g) w w') (hd : d'.inn = []) : Dc w' B C g d' (.slice none 0 0) T xs told :=
  ⟨h.low, Nat.le_trans h.cow hk.size, ho, by rw [hd]; exact Sl.nil _ _ _, h.ht.kept fun k e => hk.block k (h.ht.lt k e).2 (by rintro rfl; exact h.tne e),
    h.tl.kept (fun k _ e _ => hk.block k (Array.getElem?_eq_some_iff.1 e).1 (by rintro rfl; exact ty_ne e h.obj (by decide) rfl)) (fun k e => by simp [Value.ownBlock] at e)⟩
/-- what was told is handed on -/
theorem Dc.handed (h : Dc w B C g d I T xs told) (ho : w'.heap[g]? = some (.cells (dcs d I (.slice none 0 0)) 49 (0, 0))) (hk : Kept (fun k => k = g) w w') : Dc w' B C g d I (.slice none 0 0) [] [] :=
  ⟨h.low, Nat.le_trans h.cow hk.size, ho, h.hi.kept fun k e => hk.block k (h.hi.lt k e).2 (by rintro rfl; exact h.ine e), Sl.nil _ _ _, Told.nil _ _ _⟩
/-- a byte has been gathered: the row has grown, the block says so -/
theorem Dc.gather (h : Dc w B C g d I T xs told) {w2 : World} (hg : w.grownBy w2 I.ownBlock) {I' : Value} {l : List UInt8} (hs : Sl w2 B 5 I' l.length (bs l)) (ha : Anew w I I') :
    Dc (w2.setCell ⟨g, 1, none⟩ I') B C g ⟨d.hunts, l, d.met⟩ I' T xs told := by
  have hlt := h.lt
  have ho : w2.heap[g]? = some (.cells (dcs d I T) 49 (0, 0)) := (hg.block g hlt fun e => h.ine e.symm).trans h.obj
  have hne : ∀ k, I'.ownBlock = some k → k ≠ g := by
    rintro k e rfl
    rcases ha _ e with e' | e'
    · exact h.ine e'
    · omega
  refine ⟨h.low, by have := h.cow; have := hg.size; simp; omega, ?_, ?_, ?_, ?_⟩
  · rw [heap_setCell_same w2 g 1 _ _ _ ho]; rfl
  · exact hs.kept fun k e => heap_setCell_other _ _ _ _ (hne k e)
  · refine h.ht.kept fun k e => (heap_setCell_other _ _ _ _ ?_).trans (hg.block k (h.ht.lt k e).2 ?_)
    · rintro rfl
      exact h.tne e
    · intro e'
      exact h.it k e'.symm e
  · refine h.tl.kept (fun k _ e hi => (heap_setCell_other _ _ _ _ ?_).trans (hg.block k (Array.getElem?_eq_some_iff.1 e).1 fun e' => hi e'.symm)) ha
    rintro rfl
    exact ty_ne e h.obj (by decide) rfl
end

theorem Dc.recut {w : World} {B C C' g : Nat} {d : Hdl.Dec} {I T : Value} (h : Dc w B C g d I T [] []) (hC : C' ≤ w.heap.size) : Dc w B C' g d I T [] [] := ⟨h.low, hC, h.obj, h.hi, h.ht, Told.nil _ _ _⟩
/-- what a decoder's blocks are -/
def DcS (g : Nat) (I T : Value) : Nat → Prop := fun k => k = g ∨ I.ownBlock = some k ∨ T.ownBlock = some k

set_option maxHeartbeats 1000000 in
theorem dnew_any (w : World) :
    Calls Try.prog 10 #[] w fun e w' => e = .returned (.pointer (some ⟨w.heap.size, 0, none⟩)) ∧ Dc w' w.heap.size 0 w.heap.size ⟨true, [], ⟨0, 0, 0, 0, 0⟩⟩ (.slice none 0 0) (.slice none 0 0) [] [] ∧ Below w.heap.size w w' := by
  go_enter Try.func10, Try.ntmps10
  go_wp2
  go_ret
  exact ⟨rfl, ⟨Nat.le_refl _, Nat.zero_le _, heap_alloc_new w _, Sl.nil _ _ _, Sl.nil _ _ _, Told.nil _ _ _⟩, (Below.refl _ _).alloc (Nat.le_refl _) _⟩

set_option maxHeartbeats 1000000 in
theorem dinside_any (w : World) {B C g : Nat} {d : Hdl.Dec} {I T : Value} {xs : List Value} {told : List (List UInt8)} (h : Dc w B C g d I T xs told) :
    Calls Try.prog 16 #[.pointer (some ⟨g, 0, none⟩)] w fun e w' => e = .returned (.int .i64 (if d.hunts = true then -1 else (d.inn.length : Int))) ∧ w' = w := by
  obtain ⟨A, c, rfl, hc⟩ := h.hi.form
  have c0 := h.cell 0
  have c1 := h.cell 1
  obtain ⟨hu, inn, m⟩ := d
  simp only [dcs] at c0 c1
  simp at c0 c1
  generalize inn.length = n at c1 ⊢
  clear h
  go_enter Try.func16, Try.ntmps16
  cases hu with
  | true =>
    go_wp2
    go_ret
    exact ⟨rfl, rfl⟩
  | false =>
    go_wp2
    go_ret
    exact ⟨rfl, rfl⟩
set_option maxHeartbeats 1000000 in
theorem dinside_nil (w : World) :
    Calls Try.prog 16 #[.pointer none] w fun e w' => e = .returned (.int .i64 (-1)) ∧ w' = w := by
  go_enter Try.func16, Try.ntmps16
  go_wp2
  go_ret
  exact ⟨rfl, rfl⟩

/-- what was met, as a value -/
def mets (m : Hdl.Met) : Value := .agg #[.int .i64 m.good, .int .i64 m.bad, .int .i64 m.short, .int .i64 m.long, .int .i64 m.broken]
set_option maxHeartbeats 1000000 in
theorem dstats_any (w : World) {B C g : Nat} {d : Hdl.Dec} {I T : Value} {xs : List Value} {told : List (List UInt8)} (h : Dc w B C g d I T xs told) :
    Calls Try.prog 15 #[.pointer (some ⟨g, 0, none⟩)] w fun e w' => e = .returned (mets d.met) ∧ Below w.heap.size w w' := by
  have c2 := h.cell 2
  have c3 := h.cell 3
  have c4 := h.cell 4
  have c5 := h.cell 5
  have c6 := h.cell 6
  have glt := h.lt
  obtain ⟨hu, inn, m⟩ := d
  simp only [dcs] at c2 c3 c4 c5 c6
  simp at c2 c3 c4 c5 c6
  clear h
  go_enter Try.func15, Try.ntmps15
  go_wp2
  go_returns
  exact ⟨rfl, (Below.refl _ _).alloc (Nat.le_refl _) _⟩
end Go.Proofs.Ytpfilomckijmkaa
