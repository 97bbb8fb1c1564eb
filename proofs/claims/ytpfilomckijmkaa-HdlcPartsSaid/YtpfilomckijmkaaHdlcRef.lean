/-
  THE DOCUMENT'S DECODER: a byte comes.
-/
import Derived.Test.YtpfilomckijmkaaHdlcKind
namespace Go.Proofs.Ytpfilomckijmkaa
open Go.RowKit

/-- the cells of the document's decoder -/
def rcs (d : Hdl.Dec) (I : Value) : Array Value := #[.bool d.hunts, I, .int .i64 d.met.good, .int .i64 d.met.bad, .int .i64 d.met.short, .int .i64 d.met.long, .int .i64 d.met.broken]

theorem Hdl.kind_empty (p : List UInt8) : (Hdl.kind p).1 = 0 ↔ (Hdl.kind p).2 ≠ [] := by
  unfold Hdl.kind
  cases Stf.unstuff false p with
  | none => simp
  | some q =>
    simp only
    by_cases h3 : q.length < 3
    · simp [h3]
    · by_cases h4 : Crc.right q = false
      · simp [h3, h4]
      · by_cases h5 : 128 < q.length - 2
        · simp [h3, h4, h5]
        · simp [h3, h4, h5]
          constructor
          · omega
          · intro e
            rw [e] at h3
            simp at h3
theorem Hdl.kind_le (p : List UInt8) : (Hdl.kind p).1 ≤ 4 := by
  unfold Hdl.kind
  repeat' split
  all_goals simp
/-- what a byte makes a decoder say -/
def Hdl.said (d : Hdl.Dec) (b : UInt8) : List UInt8 := if b = 0x7e then (if d.hunts = true ∨ d.inn = [] then [] else (Hdl.kind d.inn).2) else []
theorem Hdl.step_said (d : Hdl.Dec) (b : UInt8) : (Hdl.step d b).2 = if (Hdl.said d b).length = 0 then [] else [Hdl.said d b] := by
  unfold Hdl.step Hdl.said
  by_cases hb : b = 0x7e
  · rw [if_pos hb, if_pos hb]
    by_cases h : d.hunts = true ∨ d.inn = []
    · rw [if_pos h, if_pos h]; rfl
    · rw [if_neg h, if_neg h]
      have := Hdl.kind_empty d.inn
      by_cases h0 : (Hdl.kind d.inn).1 = 0
      · have h1 := this.1 h0
        have h2 : ¬ (Hdl.kind d.inn).2.length = 0 := fun e => h1 (List.eq_nil_of_length_eq_zero e)
        simp only [if_pos h0, if_neg h2]
      · have h1 : (Hdl.kind d.inn).2 = [] := by
          cases h : (Hdl.kind d.inn).2 with
          | nil => rfl
          | cons x l => exact absurd (this.2 (by rw [h]; simp)) h0
        simp only [if_neg h0, h1, List.length_nil, if_true]
  · rw [if_neg hb, if_neg hb]
    split
    · rfl
    · split <;> rfl

/-- what the document's Byte gives -/
def RByteP (w : World) (A0 : Option Addr) (d d' : Hdl.Dec) (t : List UInt8) (e : Ending) (w' : World) : Prop :=
  ∃ A c A' c', e = .returned (.tuple #[.agg (rcs d' (.slice A d'.inn.length c)), .slice A' t.length c']) ∧ Rd w' A d'.inn.length c d'.inn ∧ Rd w' A' t.length c' t ∧ ((A = A0 ∧ d' = d) ∨ New w.heap.size A) ∧ New w.heap.size A' ∧ Below w.heap.size w w'

set_option maxHeartbeats 1000000 in
theorem rbyte_flag0 (w : World) {d : Hdl.Dec} (A : Option Addr) (c : Nat) (b : UInt8) (hR : Rd w A d.inn.length c d.inn) (hb : b = 0x7e) (hh : d.hunts = true ∨ d.inn = []) :
    Calls Try.prog 23 #[.agg (rcs d (.slice A d.inn.length c)), .int .u8 (b.toNat : Int)] w (RByteP w A d ⟨false, [], d.met⟩ []) := by
  subst hb
  obtain ⟨hu, inn, m⟩ := d
  simp only [rcs] at *
  cases hu with
  | true =>
    clear hh hR
    go_enter Try.func23, Try.ntmps23
    go_wp2
    go_returns
    exact ⟨none, 0, none, 0, rfl, Rd.nil _ _ _, Rd.nil _ _ _, .inr (New.nil _), New.nil _, by repeat (first | exact Below.refl _ _ | refine Below.alloc ?_ (by first | exact Nat.le_refl _ | (simp; done) | (simp; omega)) _ | refine Below.setCell ?_ (by simp) _)⟩
  | false =>
    have hi : inn = [] := by simpa using hh
    subst hi
    clear hh hR
    simp only [List.length_nil]
    go_enter Try.func23, Try.ntmps23
    go_wp2
    go_returns
    exact ⟨none, 0, none, 0, rfl, Rd.nil _ _ _, Rd.nil _ _ _, .inr (New.nil _), New.nil _, by repeat (first | exact Below.refl _ _ | refine Below.alloc ?_ (by first | exact Nat.le_refl _ | (simp; done) | (simp; omega)) _ | refine Below.setCell ?_ (by simp) _)⟩

theorem alloc2_0 (w : World) (o o' : Obj) : ((w.alloc o).alloc o').heap[w.heap.size]? = some o := by
  rw [Below.heap_alloc _ _ _ (by simp)]
  exact heap_alloc_new w o
theorem alloc2_1 (w : World) (o o' : Obj) : ((w.alloc o).alloc o').heap[w.heap.size + 1]? = some o' := by
  have := heap_alloc_new (w.alloc o) o'
  simpa using this
/-- a struct of seven cells has been stored -/
def set7 (w : World) (g : Nat) (v0 v1 v2 v3 v4 v5 v6 : Value) : World :=
  ((((((w.setCell ⟨g, 0, none⟩ v0).setCell ⟨g, 1, none⟩ v1).setCell ⟨g, 2, none⟩ v2).setCell ⟨g, 3, none⟩ v3).setCell ⟨g, 4, none⟩ v4).setCell ⟨g, 5, none⟩ v5).setCell ⟨g, 6, none⟩ v6
theorem heap_set7 {w : World} {g : Nat} {u0 u1 u2 u3 u4 u5 u6 : Value} {T : TypeId} (h : w.heap[g]? = some (.cells #[u0, u1, u2, u3, u4, u5, u6] T (0, 0))) (v0 v1 v2 v3 v4 v5 v6 : Value) :
    (set7 w g v0 v1 v2 v3 v4 v5 v6).heap[g]? = some (.cells #[v0, v1, v2, v3, v4, v5, v6] T (0, 0)) := by
  unfold set7
  rw [heap_setCell_same _ g 6 _ _ _ (heap_setCell_same _ g 5 _ _ _ (heap_setCell_same _ g 4 _ _ _ (heap_setCell_same _ g 3 _ _ _ (heap_setCell_same _ g 2 _ _ _ (heap_setCell_same _ g 1 _ _ _ (heap_setCell_same _ g 0 _ _ _ h))))))]
  simp
/-- its cells, ahead of the store -/
theorem cells7 {w : World} {g : Nat} {u0 u1 u2 u3 u4 u5 u6 : Value} {T : TypeId} (h : w.heap[g]? = some (.cells #[u0, u1, u2, u3, u4, u5, u6] T (0, 0))) :
    (w.cell? ⟨g, 0, none⟩ = some u0 ∧ w.cell? ⟨g, 1, none⟩ = some u1 ∧ w.cell? ⟨g, 2, none⟩ = some u2 ∧ w.cell? ⟨g, 3, none⟩ = some u3 ∧ w.cell? ⟨g, 4, none⟩ = some u4 ∧ w.cell? ⟨g, 5, none⟩ = some u5 ∧ w.cell? ⟨g, 6, none⟩ = some u6) ∧
    (∀ j, w.frozen? ⟨g, j, none⟩ = false) :=
  ⟨⟨cell_of_cells h 0, cell_of_cells h 1, cell_of_cells h 2, cell_of_cells h 3, cell_of_cells h 4, cell_of_cells h 5, cell_of_cells h 6⟩, fun j => frozen_of_row w g j _ _ h⟩
theorem below_set7 {B : Nat} {w0 w : World} {g : Nat} (h : Below B w0 w) (hg : B ≤ g) (v0 v1 v2 v3 v4 v5 v6 : Value) : Below B w0 (set7 w g v0 v1 v2 v3 v4 v5 v6) :=
  ((((((h.setCell hg v0).setCell hg v1).setCell hg v2).setCell hg v3).setCell hg v4).setCell hg v5).setCell hg v6

set_option maxHeartbeats 2000000 in
theorem rbyte_flag1 (w : World) {d : Hdl.Dec} (A : Option Addr) (c : Nat) (b : UInt8) (hR : Rd w A d.inn.length c d.inn) (hb : b = 0x7e) (hh : d.hunts = false) (hi : d.inn ≠ []) (hlen : d.inn.length ≤ 260) (hm : d.met.Le 4611686018427387904) :
    Calls Try.prog 23 #[.agg (rcs d (.slice A d.inn.length c)), .int .u8 (b.toNat : Int)] w (RByteP w A d ⟨false, [], Hdl.count d.met (Hdl.kind d.inn).1⟩ (Hdl.kind d.inn).2) := by
  subst hb
  obtain ⟨hu, inn, m⟩ := d
  simp only at hh hR hi hlen hm
  subst hh
  have h0 : ((inn.length : Int) == 0) = false := by have := List.length_pos_iff.2 hi; simp; omega
  have HR := Lib.hid hR
  have HM := Lib.hid hm
  have hz0 := fun o o' => alloc2_0 w o o'
  have hz1 := fun o o' => alloc2_1 w o o'
  have HZ0 := Lib.hid hz0
  have HZ1 := Lib.hid hz1
  obtain ⟨ls, hls⟩ : ∃ ls, ls = (Hdl.kind inn).2 := ⟨_, rfl⟩
  obtain ⟨k, hk⟩ : ∃ k, k = (Hdl.kind inn).1 := ⟨_, rfl⟩
  have hK := fun A n c w h hn => kind_any A n c inn w h hn
  have hk4 := Hdl.kind_le inn
  simp only [← hls, ← hk] at hK hk4
  have HK := Lib.hid hK
  have HKE := Lib.hid hk
  have HLS := Lib.hid hls
  clear hR hm hz0 hz1 hK hls hk
  rw [← HLS.out, ← HKE.out]
  unfold rcs
  go_enter Try.func23, Try.ntmps23
  go_wp2_with fail
  refine (HK.out A inn.length c _ (HR.out.below (((Below.refl _ _).alloc (Nat.le_refl _) _).alloc (by simp) _)) hlen).mono ?_
  rintro e w1 ⟨A1, c1, rfl, hr1, ha1, hb1⟩
  have HA1 := Lib.hid ha1
  clear ha1
  have hs1 := hb1.size
  simp at hs1
  have z0 := (hb1.block w.heap.size (by simp; omega)).trans (HZ0.out _ _)
  have z1 := (hb1.block (w.heap.size + 1) (by simp)).trans (HZ1.out _ _)
  have k2 : w1.cell? ⟨w.heap.size, 2, none⟩ = _ := cell_of_cells z0 2
  have k3 : w1.cell? ⟨w.heap.size, 3, none⟩ = _ := cell_of_cells z0 3
  have k4 : w1.cell? ⟨w.heap.size, 4, none⟩ = _ := cell_of_cells z0 4
  have k5 : w1.cell? ⟨w.heap.size, 5, none⟩ = _ := cell_of_cells z0 5
  have k6 : w1.cell? ⟨w.heap.size, 6, none⟩ = _ := cell_of_cells z0 6
  simp at k2 k3 k4 k5 k6
  have HB1 := Lib.hid ((((Below.refl _ _).alloc (Nat.le_refl _) _).alloc (by simp) _).trans (hb1.mono (by simp; omega)) : Below w.heap.size w w1)
  have HZ := Lib.hid z1
  have HR1 := Lib.hid hr1
  clear hb1 z0 z1 hr1
  go_wp2_with fail
  refine (count_any m k hk4 _ HM.out).mono ?_
  rintro e w2 ⟨rfl, hb2⟩
  have z1 := (hb2.block (w.heap.size + 1) (by omega)).trans HZ.out
  obtain ⟨⟨r0, r1, r2, r3, r4, r5, r6⟩, fr⟩ := cells7 z1
  have f0 := fr 0
  have f1 := fr 1
  have f2 := fr 2
  have f3 := fr 3
  have f4 := fr 4
  have f5 := fr 5
  have f6 := fr 6
  have HST := Lib.hid (heap_set7 z1 (.bool false) (.slice none 0 0) (.int .i64 (Hdl.count m k).good) (.int .i64 (Hdl.count m k).bad) (.int .i64 (Hdl.count m k).short) (.int .i64 (Hdl.count m k).long) (.int .i64 (Hdl.count m k).broken))
  have HB2 := Lib.hid (below_set7 (B := w.heap.size) (g := w.heap.size + 1) (HB1.out.trans (hb2.mono (by omega))) (by omega) (.bool false) (.slice none 0 0) (.int .i64 (Hdl.count m k).good) (.int .i64 (Hdl.count m k).bad) (.int .i64 (Hdl.count m k).short) (.int .i64 (Hdl.count m k).long) (.int .i64 (Hdl.count m k).broken))
  have HR2 := Lib.hid (HR1.out.below hb2)
  clear fr z1 hb2
  unfold mets
  generalize Hdl.count m k = mc at *
  go_wp2
  refine bodyPost_ret (results_cell2 rfl _ _ (w.heap.size + 1) _ _ _ _ rfl HST.out Try.underlying29 rfl (by kernel_rfl)) rfl ?_
  refine ⟨none, 0, A1, c1, rfl, Rd.nil _ _ _, ?_, .inr (New.nil _), HA1.out.base (by simp; omega), HB2.out⟩
  refine HR2.out.keep (by simp) fun b off e _ => ?_
  have h9 := HA1.out b (by subst e; rfl)
  simp at h9
  have hne : b ≠ w.heap.size + 1 := by omega
  simp only [heap_setCell_other _ (⟨w.heap.size + 1, _, none⟩ : Addr) _ _ hne]

set_option maxHeartbeats 1000000 in
theorem rbyte_hunts (w : World) {d : Hdl.Dec} (A : Option Addr) (c : Nat) (b : UInt8) (hR : Rd w A d.inn.length c d.inn) (hb : b ≠ 0x7e) (hh : d.hunts = true) :
    Calls Try.prog 23 #[.agg (rcs d (.slice A d.inn.length c)), .int .u8 (b.toNat : Int)] w (RByteP w A d d []) := by
  obtain ⟨hu, inn, m⟩ := d
  simp only at hh hR
  subst hh
  obtain ⟨t1, _⟩ := tests b 126 126 rfl (by omega) false (by simpa using hb)
  have HR := Lib.hid hR
  clear hR hb
  unfold rcs
  go_enter Try.func23, Try.ntmps23
  go_wp2
  go_returns
  refine ⟨A, c, none, 0, rfl, ?_, Rd.nil _ _ _, .inl ⟨rfl, rfl⟩, New.nil _, by repeat (first | exact Below.refl _ _ | refine Below.alloc ?_ (by first | exact Nat.le_refl _ | (simp; done) | (simp; omega)) _ | refine Below.setCell ?_ (by simp) _)⟩
  exact HR.out.below (by repeat (first | exact Below.refl _ _ | refine Below.alloc ?_ (by first | exact Nat.le_refl _ | (simp; done) | (simp; omega)) _ | refine Below.setCell ?_ (by simp) _))

set_option maxHeartbeats 2000000 in
theorem rbyte_long (w : World) {d : Hdl.Dec} (A : Option Addr) (c : Nat) (b : UInt8) (hb : b ≠ 0x7e) (hh : d.hunts = false) (hl : d.inn.length = 260) (hm : d.met.Le 4611686018427387904) :
    Calls Try.prog 23 #[.agg (rcs d (.slice A d.inn.length c)), .int .u8 (b.toNat : Int)] w (RByteP w A d ⟨true, [], Hdl.count d.met 4⟩ []) := by
  obtain ⟨hu, inn, m⟩ := d
  simp only at hh hl hm
  subst hh
  obtain ⟨t1, _⟩ := tests b 126 126 rfl (by omega) false (by simpa using hb)
  simp only [hl]
  have HM := Lib.hid hm
  have HZ1 := Lib.hid (fun o o' => alloc2_1 w o o')
  clear hm hl hb
  unfold rcs
  go_enter Try.func23, Try.ntmps23
  go_wp2_with fail
  refine (count_any m 4 (by omega) _ HM.out).mono ?_
  rintro e w2 ⟨rfl, hb2⟩
  have hs1 := hb2.size
  simp at hs1
  have z1 := (hb2.block (w.heap.size + 1) (by simp)).trans (HZ1.out _ _)
  obtain ⟨⟨r0, r1, r2, r3, r4, r5, r6⟩, fr⟩ := cells7 z1
  have f0 := fr 0
  have f1 := fr 1
  have f2 := fr 2
  have f3 := fr 3
  have f4 := fr 4
  have f5 := fr 5
  have f6 := fr 6
  have HST := Lib.hid (heap_set7 z1 (.bool true) (.slice none 0 0) (.int .i64 (Hdl.count m 4).good) (.int .i64 (Hdl.count m 4).bad) (.int .i64 (Hdl.count m 4).short) (.int .i64 (Hdl.count m 4).long) (.int .i64 (Hdl.count m 4).broken))
  have HB2 := Lib.hid (below_set7 (B := w.heap.size) (g := w.heap.size + 1) ((((Below.refl _ _).alloc (Nat.le_refl _) _).alloc (by simp) _).trans (hb2.mono (by simp; omega))) (by omega) (.bool true) (.slice none 0 0) (.int .i64 (Hdl.count m 4).good) (.int .i64 (Hdl.count m 4).bad) (.int .i64 (Hdl.count m 4).short) (.int .i64 (Hdl.count m 4).long) (.int .i64 (Hdl.count m 4).broken))
  clear fr z1 hb2
  unfold mets
  generalize Hdl.count m 4 = mc at *
  go_wp2
  refine bodyPost_ret (results_cell2 rfl _ _ (w.heap.size + 1) _ _ _ _ rfl HST.out Try.underlying29 rfl (by kernel_rfl)) rfl ?_
  exact ⟨none, 0, none, 0, rfl, Rd.nil _ _ _, Rd.nil _ _ _, .inr (New.nil _), New.nil _, HB2.out⟩

/-- a byte is gathered: what holds while the statement goes on -/
def IR (w w2 : World) (inn : List UInt8) (b : UInt8) (m : Hdl.Met) (V1 : Value) (L3 L7 : Bool) (w' : World) : Prop :=
  Below w.heap.size w w' ∧ w2.heap.size ≤ w'.heap.size ∧ w'.heap[w.heap.size]? = w2.heap[w.heap.size]? ∧ (L7 = false → w'.heap[w.heap.size + 1]? = w2.heap[w.heap.size + 1]?) ∧ (L3 = false → ∀ k, V1.ownBlock = some k → w'.heap[k]? = w2.heap[k]?) ∧
    (L7 = true → ∃ A c, w'.heap[w.heap.size + 1]? = some (.cells (rcs ⟨false, inn ++ [b], m⟩ (.slice A (inn.length + 1) c)) 29 (0, 0)) ∧ w'.ownsRow (w.heap.size + 2) 5 1 (.slice A (inn.length + 1) c) (inn.length + 1) (bs inn ++ [bv b]))
def GR2 (w w2 : World) (j : Nat) (x y : World) : Prop :=
  x.heap.size ≤ y.heap.size ∧ (∀ k, w2.heap.size ≤ k → k < x.heap.size → y.heap[k]? = x.heap[k]?) ∧ (j = 3 ∨ ∀ k, k ≠ w.heap.size + 1 → k < x.heap.size → y.heap[k]? = x.heap[k]?)
theorem GR2.refl (w w2 : World) (j : Nat) (x : World) : GR2 w w2 j x x := ⟨Nat.le_refl _, fun _ _ _ => rfl, .inr fun _ _ _ => rfl⟩
theorem GR2.below {w w2 : World} {j : Nat} {x y : World} (h : Below x.heap.size x y) : GR2 w w2 j x y := ⟨h.size, fun k _ hk => h.block k hk, .inr fun k _ hk => h.block k hk⟩
theorem IR.below {w w2 : World} {inn : List UInt8} {b : UInt8} {m : Hdl.Met} {V1 : Value} {L3 : Bool} {x y : World} (h : IR w w2 inn b m V1 L3 false x) (hV : ∀ k, V1.ownBlock = some k → k < w2.heap.size) (hs : w.heap.size + 2 ≤ w2.heap.size) (hb : Below x.heap.size x y) : IR w w2 inn b m V1 L3 false y := by
  obtain ⟨h1, h2, h3, h4, h5, h6⟩ := h
  have h8 := hb.size
  exact ⟨h1.trans (hb.mono h1.size), Nat.le_trans h2 hb.size, (hb.block _ (by omega)).trans h3, fun e => (hb.block _ (by omega)).trans (h4 e), fun e k hk => (hb.block k (by have := hV k hk; omega)).trans (h5 e k hk), fun e => by cases e⟩
def T51 (w2 : World) (b : UInt8) (v : Value) (w' : World) : Prop := ∃ q, v = .slice (some ⟨q, 0, none⟩) 1 1 ∧ w2.heap.size ≤ q ∧ w'.heap[q]? = some (.cells #[bv b] 5 (0, 0))
def T52 (w : World) (inn : List UInt8) (b : UInt8) (v : Value) (w' : World) : Prop := ∃ A c, v = .slice A (inn.length + 1) c ∧ w'.ownsRow (w.heap.size + 2) 5 1 (.slice A (inn.length + 1) c) (inn.length + 1) (bs inn ++ [bv b])
def T55 (w : World) (inn : List UInt8) (b : UInt8) (m : Hdl.Met) (v : Value) (w' : World) : Prop := ∃ A c, v = .agg (rcs ⟨false, inn ++ [b], m⟩ (.slice A (inn.length + 1) c)) ∧ w'.ownsRow (w.heap.size + 2) 5 1 (.slice A (inn.length + 1) c) (inn.length + 1) (bs inn ++ [bv b])
theorem T51.mono {w w2 : World} {b : UInt8} {v : Value} {x y : World} {j : Nat} (h : T51 w2 b v x) (hg : GR2 w w2 j x y) : T51 w2 b v y := by
  obtain ⟨q, rfl, h1, h2⟩ := h
  exact ⟨q, rfl, h1, (hg.2.1 q h1 (Array.getElem?_eq_some_iff.1 h2).1).trans h2⟩
theorem row_gr2 {w w2 : World} {v : Value} {x y : World} {j n : Nat} {xs : List Value} {e : TypeId} (h : x.ownsRow (w.heap.size + 2) e 1 v n xs) (hg : GR2 w w2 j x y) (hj : j ≠ 3) : y.ownsRow (w.heap.size + 2) e 1 v n xs := by
  refine row_keep h fun k e => ?_
  rcases hg.2.2 with h' | h'
  · exact absurd h' hj
  · have := World.ownsRow.lt h k e
    exact h' k (by omega) this.2
theorem T52.mono {w w2 : World} {inn : List UInt8} {b : UInt8} {v : Value} {x y : World} {j : Nat} (h : T52 w inn b v x) (hg : GR2 w w2 j x y) (hj : j ≠ 3) : T52 w inn b v y := by
  obtain ⟨A, c, rfl, h1⟩ := h
  exact ⟨A, c, rfl, row_gr2 h1 hg hj⟩
theorem T55.mono {w w2 : World} {inn : List UInt8} {b : UInt8} {m : Hdl.Met} {v : Value} {x y : World} {j : Nat} (h : T55 w inn b m v x) (hg : GR2 w w2 j x y) (hj : j ≠ 3) : T55 w inn b m v y := by
  obtain ⟨A, c, rfl, h1⟩ := h
  exact ⟨A, c, rfl, row_gr2 h1 hg hj⟩

set_option maxHeartbeats 2000000 in
theorem rbyte_in (w : World) {d : Hdl.Dec} (A : Option Addr) (c : Nat) (b : UInt8) (hR : Rd w A d.inn.length c d.inn) (hb : b ≠ 0x7e) (hh : d.hunts = false) (hl : d.inn.length < 260) :
    Calls Try.prog 23 #[.agg (rcs d (.slice A d.inn.length c)), .int .u8 (b.toNat : Int)] w (RByteP w A d ⟨false, d.inn ++ [b], d.met⟩ []) := by
  obtain ⟨hu, inn, m⟩ := d
  simp only at hh hl hR
  subst hh
  obtain ⟨t1, _⟩ := tests b 126 126 rfl (by omega) false (by simpa using hb)
  have HR := Lib.hid hR
  have HZ0 := Lib.hid (fun o o' => alloc2_0 w o o')
  have HZ1 := Lib.hid (fun o o' => alloc2_1 w o o')
  have t2 : ¬ ((260 : Int) ≤ (inn.length : Int)) := by omega
  clear hR hb
  unfold rcs
  go_enter Try.func23, Try.ntmps23
  go_wp2_with ((with_reducible show wpList _ _ _ (⟨some 48, _, _, _, _, _⟩ :: _) _ _); refine wpList_app _ rfl elemB (.tmp 45) (.tmp 47) rfl rfl (own_empty _ (w.heap.size + 2) _ _ 1 (by simp) (by omega)) rfl (HR.out.below ((((Below.refl _ _).alloc (Nat.le_refl _) _).alloc (by simp) _).alloc (by simp; omega) _)).src inn.length (by omega) (by omega) (by simp) ?_; intro A1 c1 w2 hown1 hg1 hat1)
  have hw2 : Below w.heap.size w w2 := below_app' (B := w.heap.size) ((((Below.refl w.heap.size w).alloc (Nat.le_refl _) _).alloc (by simp) _).alloc (by simp; omega) _) (own_empty _ (w.heap.size + 2) _ _ 1 (by simp) (by omega)) hg1 (by omega) (by simp; omega)
  have ho2 := OwnB.of hown1 inn (by simp)
  have hs2 : w.heap.size + 3 ≤ w2.heap.size := by have := hg1.size; simp at this; omega
  have hV2 := fun k (e : Value.ownBlock (.slice A1 inn.length c1) = some k) => (World.ownsRow.lt ho2 k e).2
  have hg2 : World.grownBy (((w.alloc _).alloc _).alloc _) w2 (some (w.heap.size + 2)) := hg1
  have z0 := (hg2.block w.heap.size (by simp; omega) (by simp)).trans ((Below.heap_alloc _ _ _ (by simp; omega)).trans (HZ0.out _ _))
  have z1 := (hg2.block (w.heap.size + 1) (by simp) (by simp)).trans ((Below.heap_alloc _ _ _ (by simp)).trans (HZ1.out _ _))
  have HI0 : Hid (IR w w2 inn b m (.slice A1 inn.length c1) false false w2) := ⟨hw2, Nat.le_refl _, rfl, fun _ => rfl, fun _ _ _ => rfl, fun e => by cases e⟩
  have HO2 := Lib.hid ho2
  have HV2 := Lib.hid hV2
  have HY0 := Lib.hid z0
  have HY1 := Lib.hid z1
  clear hw2 ho2 hV2 z0 z1 hown1 hg1 hg2 hat1
  refine Free.wp_seq3 (I := fun L w' => IR w w2 inn b m (.slice A1 inn.length c1) (L 3) (L 7) w') (Gr := fun j x y => GR2 w w2 j x y) (by kernel_rfl) (by kernel_rfl) ⟨HI0.out.1.drew, HI0.out.2⟩ ?_
  refine Free.Seq3.val ?_ (fun _ => GR2.refl _ _ _ _) (fun _ _ h => h) (fun a w3 L hI hp => ?_) ?_
  rotate_left
  · have e8 := hp.slotV 8 (by kernel_rfl) rfl; simp at e8
    refine ⟨Free.want_none rfl, ?_⟩
    clear hp
    go_simp
    rfl
  refine Free.Seq3.val ?_ (fun _ => GR2.refl _ _ _ _) (fun _ _ h => h) (fun a w3 L hI hp => ?_) ?_
  rotate_left
  · have e1 := hp.slotV 1 (by kernel_rfl) rfl; simp at e1
    refine ⟨Free.want_none rfl, ?_⟩
    clear hp
    go_simp
    rfl
  refine Free.Seq3.op (T := T51 w2 b) (fun j hj _ v x y h hg => T51.mono h hg) (fun a w3 L hI hp => ?_) ?_
  · have e50 := hp.backV 1 0 rfl rfl rfl rfl rfl
    have hi : IR w w2 inn b m (.slice A1 inn.length c1) (L 3) (L 7) w3 := hI
    have u3 : L 3 = false := hp.up 3 40 (by kernel_rfl)
    have u7 : L 7 = false := hp.up 7 40 (by kernel_rfl)
    
    rw [u7] at hi
    have hb2 : Below w3.heap.size w3 (w3.alloc (.cells #[bv b] 5)) := (Below.refl _ _).alloc (Nat.le_refl _) _
    refine ⟨Free.want_none rfl, .slice (some ⟨w3.heap.size, 0, none⟩) 1 1, w3.alloc (.cells #[bv b] 5), ?_, ⟨w3.heap.size, rfl, hi.2.1, heap_alloc_new _ _⟩, GR2.below hb2, by
        have := hi.below HV2.out (by omega) hb2
        show IR w w2 inn b m (.slice A1 inn.length c1) (L 3) (L 7) _
        rw [u7]
        exact this⟩
    clear hp hI hi hb2
    go_simp
  refine Free.Seq3.op (T := T52 w inn b) (fun j hj _ v x y h hg => T52.mono h hg hj) (fun a w3 L hI hp => ?_) ?_
  · have e49 := hp.backV 0 2 rfl rfl rfl rfl rfl
    have hi : IR w w2 inn b m (.slice A1 inn.length c1) (L 3) (L 7) w3 := hI
    have u3 : L 3 = false := hp.fresh
    have u7 : L 7 = false := hp.up 7 40 (by kernel_rfl)
    
    obtain ⟨q, e51, hq, hc⟩ := hp.back 2 0 rfl rfl rfl rfl rfl
    rw [u3, u7] at hi
    obtain ⟨h1, h2, h3, h4, h5, h6⟩ := hi
    have hown := row_keep HO2.out (h5 rfl)
    have hsrc : Src w3 (some ⟨q, 0, none⟩) 1 1 [bv b] := ⟨rfl, fun _ => ⟨_, rfl, fun j u hu => by
      rw [add_none, cell_of_cells hc]
      match j, hu with
      | 0, hu => simpa using hu⟩, by simp [Value.oneCell']⟩
    obtain ⟨A8, c8, w8, hrun, h8, hg8, ha8⟩ := run_app w3 elemB _ hown 1 hsrc (N := inn.length + 1) rfl (by omega) (by omega)
    have hgb : ∀ k, k < w3.heap.size → (k < w.heap.size + 2 ∨ w2.heap.size ≤ k) → w8.heap[k]? = w3.heap[k]? := fun k hk hk2 => hg8.block k hk (fun e' => by
      have h7 := World.ownsRow.lt HO2.out k e'.symm
      omega)
    refine ⟨Free.want_none rfl, .slice A8 (inn.length + 1) c8, w8, ?_, ⟨A8, c8, rfl, h8⟩, ⟨hg8.size, fun k hk hk2 => hgb k hk2 (.inr hk), .inl rfl⟩, ?_⟩
    · exact Free.exec_app (.tmp 49) (.tmp 51) rfl (Free.eval_tmp e49) (Free.eval_tmp e51) hrun
    · have e7 : Free.upd L 3 7 = false := u7
      have e3 : Free.upd L 3 3 = true := rfl
      show IR w w2 inn b m (.slice A1 inn.length c1) (Free.upd L 3 3) (Free.upd L 3 7) w8
      rw [e7, e3]
      exact ⟨below_app' h1 hown hg8 (by omega) (by omega), Nat.le_trans h2 hg8.size, (hgb _ (by omega) (.inl (by omega))).trans h3, fun _ => (hgb _ (by omega) (.inl (by omega))).trans (h4 rfl), (fun e => by cases e), (fun e => by cases e)⟩
  refine Free.Seq3.val ?_ (fun _ => GR2.refl _ _ _ _) (fun _ _ h => h) (fun a w3 L hI hp => ?_) ?_
  rotate_left
  · have e2 := hp.slotV 2 (by kernel_rfl) rfl; simp at e2
    refine ⟨Free.want_none rfl, ?_⟩
    clear hp
    go_simp
    rfl
  refine Free.Seq3.val ?_ (fun _ => GR2.refl _ _ _ _) (fun _ _ h => h) (fun a w3 L hI hp => ?_) ?_
  rotate_left
  · have e53 := hp.backV 4 0 rfl rfl rfl rfl rfl
    have hi : IR w w2 inn b m (.slice A1 inn.length c1) (L 3) (L 7) w3 := hI
    have u7 : L 7 = false := hp.up 7 40 (by kernel_rfl)
    have z0 := hi.2.2.1.trans HY0.out
    have k2 : w3.cell? ⟨w.heap.size, 2, none⟩ = _ := cell_of_cells z0 2
    have k3 : w3.cell? ⟨w.heap.size, 3, none⟩ = _ := cell_of_cells z0 3
    have k4 : w3.cell? ⟨w.heap.size, 4, none⟩ = _ := cell_of_cells z0 4
    have k5 : w3.cell? ⟨w.heap.size, 5, none⟩ = _ := cell_of_cells z0 5
    have k6 : w3.cell? ⟨w.heap.size, 6, none⟩ = _ := cell_of_cells z0 6
    simp at k2 k3 k4 k5 k6
    clear hi z0
    refine ⟨Free.want_none rfl, ?_⟩
    clear hp
    go_simp
    rfl
  refine Free.Seq3.op (T := T55 w inn b m) (fun j hj hr v x y h hg => T55.mono h hg (by rintro rfl; have h0 : false = true := (hr 40).symm.trans (by kernel_rfl); cases h0)) (fun a w3 L hI hp => ?_) ?_
  · have e54 := hp.backV 5 0 rfl rfl rfl rfl rfl
    have hi : IR w w2 inn b m (.slice A1 inn.length c1) (L 3) (L 7) w3 := hI
    have u7 : L 7 = false := hp.up 7 40 (by kernel_rfl)
    
    obtain ⟨A8, c8, e52, h8⟩ := hp.back 3 2 rfl rfl rfl rfl rfl
    refine ⟨Free.want_none rfl, .agg (rcs ⟨false, inn ++ [b], m⟩ (.slice A8 (inn.length + 1) c8)), w3, ?_, ⟨A8, c8, rfl, h8⟩, GR2.refl _ _ _ _, hI⟩
    clear hp hI hi h8
    go_simp
    simp [rcs]
  refine Free.Seq3.skip rfl (fun _ => True) (fun _ _ _ _ _ _ _ => trivial) (fun a w3 L hI hp => ?_) ?_
  · have e4 := hp.slotV 4 (by kernel_rfl) rfl; simp at e4
    have hi : IR w w2 inn b m (.slice A1 inn.length c1) (L 3) (L 7) w3 := hI
    have u7 : L 7 = false := hp.fresh
    have u3 : L 3 = true := hp.did 3 40 (by kernel_rfl)
    obtain ⟨A8, c8, e55, h8⟩ := hp.back 6 0 rfl rfl rfl rfl rfl
    rw [u3, u7] at hi
    obtain ⟨h1, h2, h3, h4, h5, h6⟩ := hi
    have z1 := (h4 rfl).trans HY1.out
    obtain ⟨⟨r0, r1, r2, r3, r4, r5, r6⟩, fr⟩ := cells7 z1
    have f0 := fr 0
    have f1 := fr 1
    have f2 := fr 2
    have f3 := fr 3
    have f4 := fr 4
    have f5 := fr 5
    have f6 := fr 6
    have hst := heap_set7 z1 (.bool false) (.slice A8 (inn.length + 1) c8) (.int .i64 m.good) (.int .i64 m.bad) (.int .i64 m.short) (.int .i64 m.long) (.int .i64 m.broken)
    have hbe := below_set7 (B := w.heap.size) (g := w.heap.size + 1) h1 (by omega) (.bool false) (.slice A8 (inn.length + 1) c8) (.int .i64 m.good) (.int .i64 m.bad) (.int .i64 m.short) (.int .i64 m.long) (.int .i64 m.broken)
    have hot : ∀ k, k ≠ w.heap.size + 1 → (set7 w3 (w.heap.size + 1) (.bool false) (.slice A8 (inn.length + 1) c8) (.int .i64 m.good) (.int .i64 m.bad) (.int .i64 m.short) (.int .i64 m.long) (.int .i64 m.broken)).heap[k]? = w3.heap[k]? := fun k hk => by simp only [set7, heap_setCell_other _ (⟨w.heap.size + 1, _, none⟩ : Addr) _ _ hk]
    refine ⟨Free.want_none rfl, set7 w3 (w.heap.size + 1) (.bool false) (.slice A8 (inn.length + 1) c8) (.int .i64 m.good) (.int .i64 m.bad) (.int .i64 m.short) (.int .i64 m.long) (.int .i64 m.broken), ?_, trivial, ⟨by simp [set7], fun k hk _ => hot k (by omega), .inr fun k hk _ => hot k hk⟩, ?_⟩
    · clear hp hI h1 h2 h3 h4 h5 h6 h8 hst hbe hot z1 fr
      unfold rcs at e55
      unfold set7
      go_simp
    · have e7 : Free.upd L 7 7 = true := rfl
      have e3 : Free.upd L 7 3 = true := u3
      show IR w w2 inn b m (.slice A1 inn.length c1) (Free.upd L 7 3) (Free.upd L 7 7) _
      rw [e7, e3]
      exact ⟨hbe, by simp [set7]; omega, (hot _ (by omega)).trans h3, (fun e => by cases e), (fun e => by cases e), fun _ => ⟨A8, c8, hst, row_keep h8 fun k e => hot k (by have := (World.ownsRow.lt h8 k e).1; omega)⟩⟩
  refine Free.Seq3.val ?_ (fun _ => GR2.refl _ _ _ _) (fun _ _ h => h) (fun a w3 L hI hp => ?_) ?_
  rotate_left
  · skip
    refine ⟨Free.want_none rfl, ?_⟩
    clear hp
    go_simp
    rfl
  refine Free.Seq3.done (by simp) (fun wz L hIz hLz => ?_)
  simp only [List.reverse_cons, List.reverse_nil, List.nil_append, List.cons_append, Free.All, Free.eqF, forall_eq]
  rintro x51 - x52 - x55 - x7 -
  simp only [Free.putL, Act.put, List.setIfInBounds_toArray, List.set_cons_zero, List.set_cons_succ]
  have hi : IR w w2 inn b m (.slice A1 inn.length c1) (L 3) (L 7) wz := hIz
  rw [hLz 7 (by decide)] at hi
  obtain ⟨A9, c9, h8, h9⟩ := hi.2.2.2.2.2 rfl
  have HST := Lib.hid h8
  have HOW := Lib.hid h9
  have HBE := Lib.hid hi.1
  clear hi hIz hLz h8 h9
  go_wp2
  unfold rcs at HST
  refine bodyPost_ret (results_cell2 rfl _ _ (w.heap.size + 1) _ _ _ _ rfl HST.out Try.underlying29 rfl (by kernel_rfl)) rfl ?_
  have hl9 : (inn ++ [b]).length = inn.length + 1 := by simp
  have hr9 := (OwnB.of (l := inn ++ [b]) (by simpa [bs_append, bs] using HOW.out) rfl).rd hl9 (by omega)
  refine ⟨A9, c9, none, 0, ?_, ?_, Rd.nil _ _ _, .inr ((New.of_row HOW.out).base (by omega)), New.nil _, HBE.out⟩
  · show _ = Ending.returned (.tuple #[.agg (rcs _ (.slice A9 (inn ++ [b]).length c9)), _])
    rw [hl9]
    rfl
  · show Rd wz A9 (inn ++ [b]).length c9 (inn ++ [b])
    rw [hl9]
    exact hr9

theorem rbyte_any (w : World) {d : Hdl.Dec} (A : Option Addr) (c : Nat) (b : UInt8) (hR : Rd w A d.inn.length c d.inn) (hok : Hdl.Ok d) (hm : d.met.Le 4611686018427387904) :
    Calls Try.prog 23 #[.agg (rcs d (.slice A d.inn.length c)), .int .u8 (b.toNat : Int)] w (RByteP w A d (Hdl.step d b).1 (Hdl.said d b)) := by
  by_cases hb : b = 0x7e
  · by_cases hh : d.hunts = true ∨ d.inn = []
    · have e : Hdl.step d b = (⟨false, [], d.met⟩, []) := by simp [Hdl.step, hb, hh]
      have e2 : Hdl.said d b = [] := by simp [Hdl.said, hb, hh]
      rw [e, e2]
      exact rbyte_flag0 w A c b hR hb hh
    · have e : (Hdl.step d b).1 = ⟨false, [], Hdl.count d.met (Hdl.kind d.inn).1⟩ := by simp [Hdl.step, hb, hh]
      have e2 : Hdl.said d b = (Hdl.kind d.inn).2 := by rw [Hdl.said, if_pos hb, if_neg hh]
      rw [e, e2]
      have hu : d.hunts = false := by cases h0 : d.hunts with
        | true => exact absurd (.inl h0) hh
        | false => rfl
      exact rbyte_flag1 w A c b hR hb hu (fun e => hh (.inr e)) hok.1 hm
  · have e2 : Hdl.said d b = [] := by rw [Hdl.said, if_neg hb]
    rw [e2]
    by_cases hh : d.hunts = true
    · have e : Hdl.step d b = (d, []) := by simp [Hdl.step, hb, hh]
      rw [e]
      exact rbyte_hunts w A c b hR hb hh
    · have hu : d.hunts = false := by simpa using hh
      by_cases hl : d.inn.length = 260
      · have e : Hdl.step d b = (⟨true, [], Hdl.count d.met 4⟩, []) := by simp [Hdl.step, hb, hu, hl]
        rw [e]
        exact rbyte_long w A c b hb hu hl hm
      · have e : Hdl.step d b = (⟨false, d.inn ++ [b], d.met⟩, []) := by simp [Hdl.step, hb, hu, hl]
        rw [e]
        exact rbyte_in w A c b hR hb hu (by have := hok.1; omega)
end Go.Proofs.Ytpfilomckijmkaa
