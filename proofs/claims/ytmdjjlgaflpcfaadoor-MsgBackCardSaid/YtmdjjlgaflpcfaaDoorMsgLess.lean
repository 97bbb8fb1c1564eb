/-
  WHICH ID IS AHEAD; WHICH MESSAGES ARE THE SAME.
-/
import Derived.Test.YtmdjjlgaflpcfaaDoorMsgWalk
import Derived.Test.YtmdjjlgaflpcfaaDoorCopy
namespace Go.Proofs.YtmdjjlgaflpcfaaDoor
open Go.RowKit Mg

set_option maxHeartbeats 2000000 in
theorem less_any (a b : Mid) (w : World) : Calls Tryd.prog 10 #[idv a, idv b] w fun e w' => e = .returned (.bool (less a b)) ∧ Below w.heap.size w w' := by
  obtain ⟨ao, ad, ae, ac⟩ := a
  obtain ⟨bo, bd, be, bc⟩ := b
  unfold idv less
  simp only
  by_cases h0 : ao = bo
  · rw [if_neg (by simpa using h0)]
    have t0 : (ao != bo) = false := by simpa using h0
    clear h0
    by_cases h1 : ad = bd
    · rw [if_neg (by simpa using h1)]
      have t1 : (ad != bd) = false := by simpa using h1
      clear h1
      by_cases h2 : ae = be
      · rw [if_neg (by simpa using h2)]
        have t2 : (ae != be) = false := by simpa using h2
        clear h2
        go_enter Tryd.func10, Tryd.ntmps10
        go_wp2
        go_ret
        exact ⟨rfl, ((Below.refl _ _).alloc (Nat.le_refl _) _).alloc (by simp) _⟩
      · rw [if_pos h2]
        have t2 : (ae != be) = true := by simpa using h2
        clear h2
        go_enter Tryd.func10, Tryd.ntmps10
        go_wp2
        go_ret
        exact ⟨rfl, ((Below.refl _ _).alloc (Nat.le_refl _) _).alloc (by simp) _⟩
    · rw [if_pos h1]
      have t1 : (ad != bd) = true := by simpa using h1
      clear h1
      go_enter Tryd.func10, Tryd.ntmps10
      go_wp2
      go_ret
      exact ⟨rfl, ((Below.refl _ _).alloc (Nat.le_refl _) _).alloc (by simp) _⟩
  · rw [if_pos h0]
    have t0 : (ao != bo) = true := by simpa using h0
    clear h0
    go_enter Tryd.func10, Tryd.ntmps10
    go_wp2
    go_ret
    exact ⟨rfl, ((Below.refl _ _).alloc (Nat.le_refl _) _).alloc (by simp) _⟩

/-- an id's numbers, as a list -/
def nums (i : Mid) : List Int := [i.o, i.d, i.e, i.c]
set_option maxHeartbeats 1000000 in
theorem numbers_any (i : Mid) (w : World) : Calls Tryd.prog 32 #[idv i] w fun e w' => e = .returned (.slice (some ⟨w.heap.size + 1, 0, none⟩) 4 4) ∧ (∀ k, k < 4 → w'.cell? ⟨w.heap.size + 1, k, none⟩ = some (.int .i64 ((nums i).getD k 0))) ∧ w'.heap.size = w.heap.size + 2 ∧ Below w.heap.size w w' := by
  obtain ⟨io, id, ie, ic⟩ := i
  unfold idv
  go_enter Tryd.func32, Tryd.ntmps32
  go_wp2
  go_ret
  refine ⟨rfl, fun k hk => ?_, by simp, ((Below.refl _ _).alloc (Nat.le_refl _) _).alloc (by simp) _⟩
  have hh : ((w.alloc (.cells #[.int .i64 io, .int .i64 id, .int .i64 ie, .int .i64 ic] 23)).alloc (.cells #[.int .i64 io, .int .i64 id, .int .i64 ie, .int .i64 ic] 3)).heap[w.heap.size + 1]? = some (.cells #[.int .i64 io, .int .i64 id, .int .i64 ie, .int .i64 ic] 3 (0, 0)) := by
    rw [show w.heap.size + 1 = (w.alloc (.cells #[.int .i64 io, .int .i64 id, .int .i64 ie, .int .i64 ic] 23)).heap.size by simp]
    exact heap_alloc_new _ _
  match k, hk with
  | 0, _ => exact cell_of_cells hh 0
  | 1, _ => exact cell_of_cells hh 1
  | 2, _ => exact cell_of_cells hh 2
  | 3, _ => exact cell_of_cells hh 3

theorem less_at (a b : Mid) (k : Nat) (hk : k < 4) (h : ∀ j, j < k → (nums a).getD j 0 = (nums b).getD j 0) (hne : (nums a).getD k 0 ≠ (nums b).getD k 0) : less a b = decide ((nums a).getD k 0 < (nums b).getD k 0) := by
  obtain ⟨ao, ad, ae, ac⟩ := a
  obtain ⟨bo, bd, be, bc⟩ := b
  unfold less
  match k, hk with
  | 0, _ =>
    simp [nums] at hne ⊢
    simp [hne]
  | 1, _ =>
    have h0 := h 0 (by omega)
    simp [nums] at h0 hne ⊢
    simp [h0, hne]
  | 2, _ =>
    have h0 := h 0 (by omega)
    have h1 := h 1 (by omega)
    simp [nums] at h0 h1 hne ⊢
    simp [h0, h1, hne]
  | 3, _ =>
    have h0 := h 0 (by omega)
    have h1 := h 1 (by omega)
    have h2 := h 2 (by omega)
    simp [nums] at h0 h1 h2 hne ⊢
    simp [h0, h1, h2]
theorem less_eq (a b : Mid) (h : ∀ j, j < 4 → (nums a).getD j 0 = (nums b).getD j 0) : less a b = false := by
  obtain ⟨ao, ad, ae, ac⟩ := a
  obtain ⟨bo, bd, be, bc⟩ := b
  have h0 := h 0 (by omega)
  have h1 := h 1 (by omega)
  have h2 := h 2 (by omega)
  have h3 := h 3 (by omega)
  simp [nums] at h0 h1 h2 h3
  simp [less, h0, h1, h2, h3]

set_option maxHeartbeats 2000000 in
theorem rless_any (a b : Mid) (w : World) : Calls Tryd.prog 13 #[idv a, idv b] w fun e w' => e = .returned (.bool (less a b)) ∧ Below w.heap.size w w' := by
  have HA := Lib.hid (fun W => numbers_any a W)
  have HB := Lib.hid (fun W => numbers_any b W)
  have HAT := Lib.hid (less_at a b)
  have HEQ := Lib.hid (less_eq a b)
  obtain ⟨la, hla⟩ : ∃ la, la = nums a := ⟨_, rfl⟩
  obtain ⟨lb, hlb⟩ : ∃ lb, lb = nums b := ⟨_, rfl⟩
  obtain ⟨r, hr⟩ : ∃ r, r = less a b := ⟨_, rfl⟩
  rw [← hla] at HA HAT HEQ
  rw [← hlb] at HB HAT HEQ
  rw [← hr] at HAT HEQ ⊢
  clear hla hlb hr
  obtain ⟨ao, ad, ae, ac⟩ := a
  obtain ⟨bo, bd, be, bc⟩ := b
  unfold idv at HA HB ⊢
  go_enter Tryd.func13, Tryd.ntmps13
  go_wp2_with fail
  refine (HA.out _).mono ?_
  rintro e w1 ⟨rfl, hc1, hs1, hb1⟩
  obtain ⟨g1, hg1⟩ : ∃ g1, g1 = ((w.alloc (.cells #[.int .i64 ao, .int .i64 ad, .int .i64 ae, .int .i64 ac] 23)).alloc (.cells #[.int .i64 bo, .int .i64 bd, .int .i64 be, .int .i64 bc] 23)).heap.size + 1 := ⟨_, rfl⟩
  rw [← hg1] at hc1 ⊢
  have hs1' : w1.heap.size = g1 + 1 := by rw [hs1, hg1]
  have hgw : w.heap.size + 3 = g1 := by rw [hg1]; simp
  have k0 : w1.cell? ⟨w.heap.size + 1, 0, none⟩ = some (.int .i64 bo) := (hb1.cell (p := ⟨w.heap.size + 1, 0, none⟩) (by simp)).trans (by simp)
  have k1 : w1.cell? ⟨w.heap.size + 1, 1, none⟩ = some (.int .i64 bd) := (hb1.cell (p := ⟨w.heap.size + 1, 1, none⟩) (by simp)).trans (by simp)
  have k2 : w1.cell? ⟨w.heap.size + 1, 2, none⟩ = some (.int .i64 be) := (hb1.cell (p := ⟨w.heap.size + 1, 2, none⟩) (by simp)).trans (by simp)
  have k3 : w1.cell? ⟨w.heap.size + 1, 3, none⟩ = some (.int .i64 bc) := (hb1.cell (p := ⟨w.heap.size + 1, 3, none⟩) (by simp)).trans (by simp)
  have HBL := Lib.hid ((((Below.refl w.heap.size w).alloc (Nat.le_refl _) _).alloc (by simp) _).trans (hb1.mono (by simp; omega)))
  have HC1 := Lib.hid hc1
  have HS1 := Lib.hid hs1'
  have HGW := Lib.hid hgw
  clear hc1 hs1 hs1' hb1 hg1 hgw
  go_wp2_with fail
  refine (HB.out _).mono ?_
  rintro e w2 ⟨rfl, hc2, hs2, hb2⟩
  have hc1' : ∀ k, k < 4 → w2.cell? ⟨g1, k, none⟩ = some (.int .i64 (la.getD k 0)) := fun k hk => (hb2.cell (p := ⟨g1, k, none⟩) (by have := HS1.out; show g1 < _; omega)).trans (HC1.out k hk)
  have HB2 := Lib.hid (HBL.out.trans (hb2.mono (by have := HS1.out; have := HGW.out; omega)))
  have HD1 := Lib.hid hc1'
  have HD2 := Lib.hid hc2
  have hl1 : g1 < w2.heap.size := by have := HS1.out; omega
  have hl2 : w1.heap.size + 1 < w2.heap.size := by omega
  obtain ⟨g2, hg2⟩ : ∃ g2, g2 = w1.heap.size + 1 := ⟨_, rfl⟩
  rw [← hg2] at HD2 hl2 ⊢
  clear hc1' hc2 hs2 hb2 hg2 k0 k1 k2 k3
  go_wp2_with fail
  go_loopw [7] (fun i wr => ∃ k : Nat, k ≤ 4 ∧ i = .int .i64 k ∧ Hid (∀ j, j < k → la.getD j 0 = lb.getD j 0) ∧ Hid (Below w2.heap.size w2 wr)) (fun i _ => 4 - (intOf i).toNat)
  case atStart => exact ⟨0, Nat.zero_le _, rfl, fun j h => absurd h (by omega), Below.refl _ _⟩
  case round =>
    obtain ⟨k, hk, rfl, he, hI⟩ := hrel
    by_cases hk4 : k < 4
    · have e1 := (hI.out.cell (p := ⟨g1, k, none⟩) hl1).trans (HD1.out k hk4)
      have e2 := (hI.out.cell (p := ⟨g2, k, none⟩) hl2).trans (HD2.out k hk4)
      have b0 : (0 : Int) ≤ (k : Int) := by omega
      have b1 : (k : Int) < 4 := by omega
      have hat := HAT.out k hk4 he.out
      have hnext : la.getD k 0 = lb.getD k 0 → ∀ j, j < k + 1 → la.getD j 0 = lb.getD j 0 := fun h j hj => by
        rcases Nat.lt_or_ge j k with h1 | h1
        · exact he.out j h1
        · obtain rfl : j = k := by omega
          exact h
      obtain ⟨x, hx⟩ : ∃ x, x = la.getD k 0 := ⟨_, rfl⟩
      obtain ⟨y, hy⟩ : ∃ y, y = lb.getD k 0 := ⟨_, rfl⟩
      rw [← hx] at e1 hat hnext
      rw [← hy] at e2 hat hnext
      have HA2 := Lib.hid hat
      have HN := Lib.hid hnext
      clear hat hnext hx hy
      by_cases hxy : x = y
      · have t0 : (x != y) = false := by simpa using hxy
        have HXY := Lib.hid hxy
        clear hxy
        go_wp2_with fail
        go_quiet (fail)
        go_wp2
        go_roundw
        case rel => exact ⟨k + 1, by omega, by go_num, HN.out HXY.out, below_drewN hI.out _⟩
        case measure => simp [intOf]; omega
      · have t0 : (x != y) = true := by simpa using hxy
        have HXY := Lib.hid hxy
        clear hxy
        go_wp2_with fail
        go_quiet (fail)
        go_wp2
        go_quiet (fail)
        go_wp2
        go_ret
        refine ⟨ret_bool (HA2.out HXY.out).symm, ?_⟩
        exact below_drewN (below_drewN (HB2.out.trans (hI.out.mono (by have := HB2.out.size; omega))) _) _
    · obtain rfl : k = 4 := by omega
      have HE := Lib.hid (HEQ.out he.out)
      clear he
      go_wp2
      go_ret
      exact ⟨ret_bool HE.out.symm, HB2.out.trans (hI.out.mono HB2.out.size)⟩
end Go.Proofs.YtmdjjlgaflpcfaaDoor
