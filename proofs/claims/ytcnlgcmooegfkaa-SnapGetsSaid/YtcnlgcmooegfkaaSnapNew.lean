/-
  NEW STORES: the walk; a store's cells.
-/
import Derived.Test.YtcnlgcmooegfkaaSnapNx
import Derived.Test.YtcnlgcmooegfkaaSnapRt
namespace Go.Proofs.Ytcnlgcmooegfkaa
open Go.RowKit Mg Sn

/-- a store's cells -/
def stC (self qh qb qg ep : Int) (u : List Int) (hm : Nat) (came by_ : Int) (set : Value) : List Value :=
  [.int .i64 self, .int .i64 qh, .int .i64 qb, .int .i64 qg, .int .i64 ep] ++ is64 u ++ [.map (some hm), .int .i64 came, .int .i64 by_, set]

theorem store_bad (self : Int) (h : ¬ (0 ≤ self ∧ self ≤ 63)) (w : World) : Calls Try.prog 47 #[.int .i64 self, .agg #[.int .i64 256, .int .i64 1048576, .int .i64 256]] w fun e w' => e = .returned (.tuple #[.pointer none, .int .i64 1]) ∧ Below w.heap.size w w' := by
  have hd : decide (0 ≤ self ∧ self ≤ 63) = false := by simpa using h
  have hc : ∀ W, Calls Try.prog 64 #[.int .i64 self, .int .i64 63] W fun e w' => e = .returned (.bool false) ∧ W = w' := fun W => by rw [← hd]; exact sin_any self 63 W
  have HC := Lib.hid hc; clear hc hd h
  go_enter Try.func47, Try.ntmps47
  go_wp2_with (first | (go_at_call 64; refine (HC.out _).mono ?_; rintro e w' ⟨rfl, rfl⟩))
  go_ret2
  exact ⟨rfl, (Below.refl _ _).alloc (Nat.le_refl _) _⟩

set_option maxRecDepth 100000 in
set_option maxHeartbeats 2000000 in
theorem store_new (self : Int) (h0 : 0 ≤ self) (h1 : self ≤ 63) (w : World) : Calls Try.prog 47 #[.int .i64 self, .agg #[.int .i64 256, .int .i64 1048576, .int .i64 256]] w fun e w' => ∃ s hm set, e = .returned (.tuple #[.pointer (some ⟨s, 0, none⟩), .int .i64 0]) ∧ w.heap.size ≤ s ∧ w.heap.size ≤ hm ∧ w'.heap[hm]? = some (.map #[] 0) ∧
    w'.heap[s]? = some (.cells (stC self 256 1048576 256 0 (List.replicate 64 0) hm 0 0 set).toArray 99 (0, 0)) ∧ Below w.heap.size w w' := by
  have hd : decide (0 ≤ self ∧ self ≤ 63) = true := by simp [h0, h1]
  have hc : ∀ W, Calls Try.prog 64 #[.int .i64 self, .int .i64 63] W fun e w' => e = .returned (.bool true) ∧ W = w' := fun W => by rw [← hd]; exact sin_any self 63 W
  have HC := Lib.hid hc; clear hc hd; have hmm := @run_makeMap Try.prog
  go_enter Try.func47, Try.ntmps47
  go_wp2_with (first | (go_at_call 64; first | ((with_reducible refine (HC.out _).mono ?_); rintro e w' ⟨rfl, rfl⟩) | (refine (sin_any _ _ _).mono ?_; rintro e w' ⟨rfl, rfl⟩)))
  refine (snew_any 256 (by omega) (by omega) _).mono ?_; rintro e w1 ⟨m, s, rfl, hm1, hs1, hm2, hs2, hb⟩; have k0 := (hb.cell (p := ⟨w.heap.size, 0, none⟩) (by simp)).trans (World.cell?_alloc_mark w _ _ _ 0); have k1 := (hb.cell (p := ⟨w.heap.size, 1, none⟩) (by simp)).trans (World.cell?_alloc_mark w _ _ _ 1); have k2 := (hb.cell (p := ⟨w.heap.size, 2, none⟩) (by simp)).trans (World.cell?_alloc_mark w _ _ _ 2); simp at k0 k1 k2; have hz := hb.size; rw [World.size_alloc] at hz; have HB := Lib.hid (((Below.refl w.heap.size w).alloc (Nat.le_refl _) (.cells #[.int .i64 256, .int .i64 1048576, .int .i64 256] 68)).trans (hb.mono (by simp))); clear hm2 hs2 hm1 hs1 hb HC
  go_wp2_with fail
  go_ret2
  refine ⟨w1.heap.size + 1, w1.heap.size, .pointer (some ⟨s, 0, none⟩), rfl, by omega, by omega, (Below.heap_alloc _ _ _ (by simp)).trans (heap_alloc_new w1 _), ?_, (HB.out.alloc (by omega) _).alloc (by simp; omega) _⟩; have h := heap_alloc_new (w1.alloc (.map #[] 0)) (.cells (stC self 256 1048576 256 0 (List.replicate 64 0) w1.heap.size 0 0 (.pointer (some ⟨s, 0, none⟩))).toArray 99); rw [World.size_alloc] at h; exact h

/-! ### a store's cells, one by one -/
section
variable {self qh qb qg ep : Int} {u : List Int} {hm : Nat} {came by_ : Int} {set : Value} {w : World} {s : Nat}
/-- the store stands in block s -/
def StoreAt (w : World) (s : Nat) (self qh qb qg ep : Int) (u : List Int) (hm : Nat) (came by_ : Int) (set : Value) : Prop :=
  u.length = 64 ∧ w.heap[s]? = some (.cells (stC self qh qb qg ep u hm came by_ set).toArray 99 (0, 0))
theorem stC_lo (k : Nat) (hk : k < 5) : (stC self qh qb qg ep u hm came by_ set)[k]? = [Value.int .i64 self, .int .i64 qh, .int .i64 qb, .int .i64 qg, .int .i64 ep][k]? := by
  unfold stC; rw [List.append_assoc, List.getElem?_append_left (by simpa using hk)]
theorem stC_mid (hu : u.length = 64) (d : Nat) (hd : d < 64) : (stC self qh qb qg ep u hm came by_ set)[5 + d]? = some (.int .i64 (u.getD d 0)) := by
  unfold stC; rw [List.append_assoc, List.getElem?_append_right (by simp), List.getElem?_append_left (by simp [is64]; omega)]; simp [is64]; rw [List.getElem?_eq_getElem (by omega)]; simp
theorem stC_hi (hu : u.length = 64) (k : Nat) : (stC self qh qb qg ep u hm came by_ set)[69 + k]? = [Value.map (some hm), .int .i64 came, .int .i64 by_, set][k]? := by
  unfold stC; rw [List.append_assoc, List.getElem?_append_right (by simp; omega), List.getElem?_append_right (by simp [is64]; omega)]
  congr 1
  simp [is64]; omega
theorem StoreAt.cell (h : StoreAt w s self qh qb qg ep u hm came by_ set) (k : Nat) : w.cell? ⟨s, k, none⟩ = (stC self qh qb qg ep u hm came by_ set)[k]? := by
  rw [cell_of_cells h.2]; simp
theorem StoreAt.free (h : StoreAt w s self qh qb qg ep u hm came by_ set) (k : Nat) : w.frozen? ⟨s, k, none⟩ = false := frozen_of_row w s k _ _ h.2
theorem StoreAt.lt (h : StoreAt w s self qh qb qg ep u hm came by_ set) : s < w.heap.size := (Array.getElem?_eq_some_iff.1 h.2).1
theorem StoreAt.keep {w' : World} (h : StoreAt w s self qh qb qg ep u hm came by_ set) (hk : w'.heap[s]? = w.heap[s]?) : StoreAt w' s self qh qb qg ep u hm came by_ set := ⟨h.1, hk.trans h.2⟩
theorem stC_set_mid (hu : u.length = 64) (d : Nat) (hd : d < 64) (x : Int) : (stC self qh qb qg ep u hm came by_ set).set (5 + d) (.int .i64 x) = stC self qh qb qg ep (u.set d x) hm came by_ set := by
  unfold stC; rw [List.append_assoc, List.set_append_right _ _ (by simp), List.set_append_left _ _ (by simp [is64]; omega)]; simp [is64, List.map_set]
theorem StoreAt.setUsed (h : StoreAt w s self qh qb qg ep u hm came by_ set) (d : Nat) (hd : d < 64) (x : Int) : StoreAt (w.setCell ⟨s, 5 + d, none⟩ (.int .i64 x)) s self qh qb qg ep (u.set d x) hm came by_ set := by
  refine ⟨by rw [List.length_set]; exact h.1, ?_⟩; rw [heap_setCell_same w s (5 + d) _ _ _ h.2, ← stC_set_mid h.1 d hd]; simp
theorem StoreAt.setLo (h : StoreAt w s self qh qb qg ep u hm came by_ set) (k : Nat) (x : Value) {cs : List Value} (hc : (stC self qh qb qg ep u hm came by_ set).set k x = cs) : (w.setCell ⟨s, k, none⟩ x).heap[s]? = some (.cells cs.toArray 99 (0, 0)) := by
  rw [heap_setCell_same w s k _ _ _ h.2, ← hc]; simp
theorem StoreAt.setEp (h : StoreAt w s self qh qb qg ep u hm came by_ set) (x : Int) : StoreAt (w.setCell ⟨s, 4, none⟩ (.int .i64 x)) s self qh qb qg x u hm came by_ set := ⟨h.1, h.setLo 4 _ rfl⟩
theorem StoreAt.setQh (h : StoreAt w s self qh qb qg ep u hm came by_ set) (x : Int) : StoreAt (w.setCell ⟨s, 1, none⟩ (.int .i64 x)) s self x qb qg ep u hm came by_ set := ⟨h.1, h.setLo 1 _ rfl⟩
theorem StoreAt.setQb (h : StoreAt w s self qh qb qg ep u hm came by_ set) (x : Int) : StoreAt (w.setCell ⟨s, 2, none⟩ (.int .i64 x)) s self qh x qg ep u hm came by_ set := ⟨h.1, h.setLo 2 _ rfl⟩
theorem StoreAt.setQg (h : StoreAt w s self qh qb qg ep u hm came by_ set) (x : Int) : StoreAt (w.setCell ⟨s, 3, none⟩ (.int .i64 x)) s self qh qb x ep u hm came by_ set := ⟨h.1, h.setLo 3 _ rfl⟩
theorem stC_set_hi (hu : u.length = 64) (k : Nat) (x : Value) : (stC self qh qb qg ep u hm came by_ set).set (69 + k) x = [.int .i64 self, .int .i64 qh, .int .i64 qb, .int .i64 qg, .int .i64 ep] ++ is64 u ++ [Value.map (some hm), .int .i64 came, .int .i64 by_, set].set k x := by
  unfold stC; rw [List.set_append_right _ _ (by simp [is64]; omega)]
  congr 2
  simp [is64]; omega
theorem StoreAt.setCame (h : StoreAt w s self qh qb qg ep u hm came by_ set) (x : Int) : StoreAt (w.setCell ⟨s, 70, none⟩ (.int .i64 x)) s self qh qb qg ep u hm x by_ set := ⟨h.1, h.setLo 70 _ (stC_set_hi h.1 1 _)⟩
theorem StoreAt.setBy (h : StoreAt w s self qh qb qg ep u hm came by_ set) (x : Int) : StoreAt (w.setCell ⟨s, 71, none⟩ (.int .i64 x)) s self qh qb qg ep u hm came x set := ⟨h.1, h.setLo 71 _ (stC_set_hi h.1 2 _)⟩
theorem StoreAt.setSet (h : StoreAt w s self qh qb qg ep u hm came by_ set) (x : Value) : StoreAt (w.setCell ⟨s, 72, none⟩ x) s self qh qb qg ep u hm came by_ x := ⟨h.1, h.setLo 72 _ (stC_set_hi h.1 3 _)⟩
end
end Go.Proofs.Ytcnlgcmooegfkaa
