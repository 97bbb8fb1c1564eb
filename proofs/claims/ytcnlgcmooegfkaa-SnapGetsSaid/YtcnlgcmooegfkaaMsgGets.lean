/-
  A MESSAGE OUT OF BYTES.
-/
import Derived.Test.YtcnlgcmooegfkaaMsgPuts2
import Derived.Laws.Bits64b
namespace Go.Proofs.Ytcnlgcmooegfkaa
open Go.RowKit Mg

set_option maxRecDepth 100000 in
set_option maxHeartbeats 2000000 in
theorem bget2 (A : Option Addr) (n c : Nat) (l : List UInt8) (at_ : Nat) (w : World) (hR : Rd w A n c l) (hn : n ≤ 1000000000000) (ha : at_ + 2 ≤ n) :
    Calls Try.prog 32 #[.slice A n c, .int .i64 at_, .int .i64 2] w fun e w' => e = .returned (.tuple #[.int .u64 ((l.getD at_ 0).toNat * 256 + (l.getD (at_ + 1) 0).toNat : Nat), .int .i64 0]) ∧ Below w.heap.size w w' := by
  obtain ⟨b, off, rfl, hb, hc⟩ := hR.at_ (by omega); have hl := hR.len; have hl0 : at_ < l.length := by omega
  have hl1 : at_ + 1 < l.length := by omega
  have c0 := hc at_ (l.getD at_ 0) (by simp [hl0]); have c1 := hc (at_ + 1) (l.getD (at_ + 1) 0) (by simp [hl1]); obtain ⟨x, hx⟩ : ∃ x, x = l.getD at_ 0 := ⟨_, rfl⟩; obtain ⟨y, hy⟩ : ∃ y, y = l.getD (at_ + 1) 0 := ⟨_, rfl⟩; rw [← hx] at c0 ⊢; rw [← hy] at c1 ⊢; have hcap := hR.cap; have hx8 := x.toNat_lt; have hy8 := y.toNat_lt; unfold bv at c0 c1; obtain ⟨x, hx'⟩ : ∃ z : Nat, z = x.toNat := ⟨_, rfl⟩; obtain ⟨y, hy'⟩ : ∃ z : Nat, z = y.toNat := ⟨_, rfl⟩; rw [← hx'] at c0 hx8 ⊢; rw [← hy'] at c1 hy8 ⊢; clear hx hy hx' hy' hc hR hl hl0 hl1; have b0 : (0 : Int) ≤ (at_ : Int) := by omega
  have b1 : (at_ : Int) ≤ (n : Int) := by omega
  have b2 : (2 : Int) ≤ (n : Int) - (at_ : Int) := by omega
  have hor0 : bits .or .u64 0 (x : Int) = (x : Int) := by
    have := bits_or_u64_nat 0 x (by omega) (by omega)
    simpa using this
  have hor1 : bits .or .u64 ((x : Int) * 256) (y : Int) = (x : Int) * 256 + (y : Int) := by
    have := bits_or_u64_nat (x * 256) y (by omega) (by omega); rw [show x * 256 ||| y = x * 256 + y by rw [show (256 : Nat) = 2 ^ 8 from rfl, ← Nat.shiftLeft_eq, Nat.shiftLeft_add_eq_or_of_lt (by omega)]] at this
    simpa using this
  rw [← Nat.add_assoc] at c1; rw [show ((x * 256 + y : Nat) : Int) = (x : Int) * 256 + (y : Int) by omega]
  go_enter Try.func32, Try.ntmps32
  go_wp2_with fail
  refine wp_loop_rounds 3 ?_; rw [rounds_succ]
  go_wp2_with fail
  rw [rounds_succ]
  go_wp2_with fail
  rw [rounds_succ]
  go_wp2
  go_ret2
  exact ⟨rfl, Below.refl _ _⟩

set_option maxRecDepth 100000 in
set_option maxHeartbeats 2000000 in
theorem rget2 (A : Option Addr) (n c : Nat) (l : List UInt8) (at_ : Nat) (w : World) (hR : Rd w A n c l) (hn : n ≤ 1000000000000) (ha : at_ + 2 ≤ n) :
    Calls Try.prog 58 #[.slice A n c, .int .i64 at_, .int .i64 2] w fun e w' => e = .returned (.tuple #[.int .u64 ((l.getD at_ 0).toNat * 256 + (l.getD (at_ + 1) 0).toNat : Nat), .int .i64 0]) ∧ Below w.heap.size w w' := by
  obtain ⟨b, off, rfl, hb, hc⟩ := hR.at_ (by omega); have hl := hR.len; have hl0 : at_ < l.length := by omega
  have hl1 : at_ + 1 < l.length := by omega
  have c0 := hc at_ (l.getD at_ 0) (by simp [hl0]); have c1 := hc (at_ + 1) (l.getD (at_ + 1) 0) (by simp [hl1]); obtain ⟨x, hx⟩ : ∃ x, x = l.getD at_ 0 := ⟨_, rfl⟩; obtain ⟨y, hy⟩ : ∃ y, y = l.getD (at_ + 1) 0 := ⟨_, rfl⟩; rw [← hx] at c0 ⊢; rw [← hy] at c1 ⊢; have hcap := hR.cap; have hx8 := x.toNat_lt; have hy8 := y.toNat_lt; unfold bv at c0 c1; obtain ⟨x, hx'⟩ : ∃ z : Nat, z = x.toNat := ⟨_, rfl⟩; obtain ⟨y, hy'⟩ : ∃ z : Nat, z = y.toNat := ⟨_, rfl⟩; rw [← hx'] at c0 hx8 ⊢; rw [← hy'] at c1 hy8 ⊢; clear hx hy hx' hy' hc hR hl hl0 hl1; have b0 : (0 : Int) ≤ (at_ : Int) := by omega
  have b1 : (at_ : Int) ≤ (n : Int) := by omega
  have b2 : (2 : Int) ≤ (n : Int) - (at_ : Int) := by omega
  rw [show ((x * 256 + y : Nat) : Int) = 256 * (x : Int) + (y : Int) by omega]
  go_enter Try.func58, Try.ntmps58
  go_wp2_with fail
  refine wp_loop_rounds 3 ?_; rw [rounds_succ]
  go_wp2_with fail
  rw [rounds_succ]
  go_wp2_with fail
  rw [rounds_succ]
  go_wp2
  go_ret2
  exact ⟨rfl, Below.refl _ _⟩

/-- the id that bytes are, if they are one's -/
def nat8 (l : List UInt8) (k : Nat) : Nat := (l.getD k 0).toNat
def gid (l : List UInt8) : Mid := ⟨(nat8 l 0 : Nat), (nat8 l 1 : Nat), (nat8 l 2 * 256 + nat8 l 3 : Nat), (nat8 l 4 * 256 + nat8 l 5 : Nat)⟩
def mid0 : Mid := ⟨0, 0, 0, 0⟩
def getI (l : List UInt8) : Mid := if l.length = 6 ∧ chk (gid l) = 0 then gid l else mid0
def getIE (l : List UInt8) : Int := if l.length = 6 ∧ chk (gid l) = 0 then 0 else 2

set_option maxRecDepth 100000 in
set_option maxHeartbeats 2000000 in
theorem getid_six (A : Option Addr) (c : Nat) (l : List UInt8) (w : World) (hR : Rd w A 6 c l) : Calls Try.prog 57 #[.slice A 6 c] w fun e w' => e = .returned (.tuple #[idv (getI l), .int .i64 (getIE l)]) ∧ Below w.heap.size w w' := by
  have hck := fun W => check_any (gid l) W
  have hl := hR.len; have hcase : (chk (gid l) = 0 ∧ getI l = gid l ∧ getIE l = 0) ∨ (chk (gid l) ≠ 0 ∧ getI l = mid0 ∧ getIE l = 2) := by
    by_cases h : chk (gid l) = 0
    · exact .inl ⟨h, if_pos ⟨hl, h⟩, if_pos ⟨hl, h⟩⟩
    · exact .inr ⟨h, if_neg (fun e => h e.2), if_neg (fun e => h e.2)⟩
  have HG1 := Lib.hid (fun W h => bget2 A 6 c l 2 W h (by omega) (by omega)); have HG2 := Lib.hid (fun W h => bget2 A 6 c l 4 W h (by omega) (by omega)); obtain ⟨b, off, rfl, hb, hc⟩ := hR.at_ (by omega); have c0 := hc 0 (l.getD 0 0) (by simp [hl]); have c1 := hc 1 (l.getD 1 0) (by simp [hl]); unfold bv at c0 c1; have g0 : gid l = ⟨(nat8 l 0 : Nat), (nat8 l 1 : Nat), (nat8 l 2 * 256 + nat8 l 3 : Nat), (nat8 l 4 * 256 + nat8 l 5 : Nat)⟩ := rfl; have lt8 : ∀ k, nat8 l k < 256 := fun k => UInt8.toNat_lt _
  obtain ⟨x0, hx0⟩ : ∃ x, x = nat8 l 0 := ⟨_, rfl⟩; obtain ⟨x1, hx1⟩ : ∃ x, x = nat8 l 1 := ⟨_, rfl⟩; obtain ⟨x2, hx2⟩ : ∃ x, x = nat8 l 2 * 256 + nat8 l 3 := ⟨_, rfl⟩; obtain ⟨x3, hx3⟩ : ∃ x, x = nat8 l 4 * 256 + nat8 l 5 := ⟨_, rfl⟩; have p0 : x0 < 256 := by rw [hx0]; exact lt8 0
  have p1 : x1 < 256 := by rw [hx1]; exact lt8 1
  have p2 : x2 < 65536 := by have := lt8 2; have := lt8 3; omega
  have p3 : x3 < 65536 := by have := lt8 4; have := lt8 5; omega
  change w.cell? ⟨b, off + 0, none⟩ = some (.int .u8 (nat8 l 0 : Nat)) at c0
  change w.cell? ⟨b, off + 1, none⟩ = some (.int .u8 (nat8 l 1 : Nat)) at c1
  change Hid (∀ W, Rd W _ 6 c l → Calls Try.prog 32 #[_, .int .i64 2, .int .i64 2] W fun e w' => e = .returned (.tuple #[.int .u64 (nat8 l 2 * 256 + nat8 l 3 : Nat), .int .i64 0]) ∧ _) at HG1
  change Hid (∀ W, Rd W _ 6 c l → Calls Try.prog 32 #[_, .int .i64 4, .int .i64 2] W fun e w' => e = .returned (.tuple #[.int .u64 (nat8 l 4 * 256 + nat8 l 5 : Nat), .int .i64 0]) ∧ _) at HG2
  rw [← hx0] at c0 g0; rw [← hx1] at c1 g0; rw [← hx2] at HG1 g0; rw [← hx3] at HG2 g0; rw [g0] at hck hcase; have HCK := Lib.hid hck; have HR := Lib.hid hR; have HCASE := Lib.hid hcase; clear hck hcase g0 hx0 hx1 hx2 hx3 lt8 hc hR hl; unfold idv at HCK; simp only at HCK; obtain ⟨G, hG⟩ : ∃ G, G = getI l := ⟨_, rfl⟩; obtain ⟨GE, hGE⟩ : ∃ G, G = getIE l := ⟨_, rfl⟩; rw [← hG, ← hGE] at HCASE ⊢; clear hG hGE; rw [Nat.add_zero] at c0
  go_enter Try.func57, Try.ntmps57
  go_wp2_with fail
  have hb1 := (Below.refl w.heap.size w).alloc (Nat.le_refl _) (.cells #[.int .i64 0, .int .i64 0, .int .i64 0, .int .i64 0] 52); refine (HG1.out _ (HR.out.below hb1)).mono ?_; rintro e w1 ⟨rfl, hb2⟩; have hb3 := hb1.trans (hb2.mono hb1.size)
  go_wp2_with fail
  refine (HG2.out _ (HR.out.below hb3)).mono ?_; rintro e w2 ⟨rfl, hb4⟩; have HZ := Lib.hid ((hb4.block w.heap.size (by have := hb2.size; simp at this; omega)).trans ((hb2.block w.heap.size (by simp)).trans (heap_alloc_new w (.cells #[.int .i64 0, .int .i64 0, .int .i64 0, .int .i64 0] 52)))); have HB := Lib.hid (hb3.trans (hb4.mono hb3.size)); have d0 := (HB.out.cell (p := ⟨b, off, none⟩) hb).trans c0; have d1 := (HB.out.cell (p := ⟨b, off + 1, none⟩) hb).trans c1; have hz2 : w.heap.size < w2.heap.size := by have := hb2.size; have := hb4.size; simp at *; omega
  have hbl : b < w2.heap.size := by have := HB.out.size; omega
  have d0' := fun o => (World.cell?_alloc_lt w2 o (a := ⟨b, off, none⟩) hbl).trans d0
  have d1' := fun o => (World.cell?_alloc_lt w2 o (a := ⟨b, off + 1, none⟩) hbl).trans d1
  clear hb1 hb2 hb3 hb4 c0 c1
  go_wp2_with fail
  go_region
  obtain ⟨w3, hw3⟩ : ∃ w3, w3 = (w2.alloc (.cells #[.int .i64 x0, .int .i64 x1, .int .i64 x2, .int .i64 x3] 52)).drew := ⟨_, rfl⟩; have hb3 : Below w2.heap.size w2 w3 := by rw [hw3]; exact ((Below.refl _ _).alloc (Nat.le_refl _) _).drew
  have hn3 : w3.heap[w2.heap.size]? = some (.cells #[.int .i64 x0, .int .i64 x1, .int .i64 x2, .int .i64 x3] 52) := by rw [hw3]; exact heap_alloc_new _ _
  rw [← hw3]; clear hw3 d0 d1 d0' d1'; have k0 := cell_of_cells hn3 0; have k1 := cell_of_cells hn3 1; have k2 := cell_of_cells hn3 2; have k3 := cell_of_cells hn3 3; have hlt3 : w2.heap.size < w3.heap.size := (Array.getElem?_eq_some_iff.1 hn3).1
  go_wp2_with fail
  refine (HCK.out _).mono ?_; rintro e w4 ⟨rfl, hb4⟩; have hz4 := (hb4.block w.heap.size (by omega)).trans ((hb3.block w.heap.size hz2).trans HZ.out); have hn4 := (hb4.block w2.heap.size hlt3).trans hn3; have HB4 := Lib.hid ((HB.out.trans (hb3.mono HB.out.size)).trans (hb4.mono (by have := HB.out.size; omega))); have i0 := cell_of_cells hn4 0; have i1 := cell_of_cells hn4 1; have i2 := cell_of_cells hn4 2; have i3 := cell_of_cells hn4 3; have r0 := cell_of_cells hz4 0; have r1 := cell_of_cells hz4 1; have r2 := cell_of_cells hz4 2; have r3 := cell_of_cells hz4 3; have f0 := frozen_of_row w4 w.heap.size 0 _ _ hz4; have f1 := frozen_of_row w4 w.heap.size 1 _ _ hz4; have f2 := frozen_of_row w4 w.heap.size 2 _ _ hz4; have f3 := frozen_of_row w4 w.heap.size 3 _ _ hz4; clear k0 k1 k2 k3 hb3 hb4 hn3 hn4
  rcases HCASE.out with ⟨h0, rfl, rfl⟩ | ⟨h0, rfl, rfl⟩
  · rw [h0]; have hst := sets_heap0 (vs := [.int .i64 x0, .int .i64 x1, .int .i64 x2, .int .i64 x3]) (us := [.int .i64 0, .int .i64 0, .int .i64 0, .int .i64 0]) hz4 rfl; have hbe := sets_below (Nat.le_refl w.heap.size) [.int .i64 x0, .int .i64 x1, .int .i64 x2, .int .i64 x3] 0 w4 HB4.out; simp only [sets, Nat.zero_add, Nat.reduceAdd] at hst hbe; have HST := Lib.hid hst; have HBE := Lib.hid hbe; clear hst hbe hz4 HCASE h0
    go_wp2
    refine bodyPost_ret (results_cell2 rfl _ _ w.heap.size _ _ _ _ rfl HST.out Try.underlying52 rfl (by kernel_rfl)) rfl ?_; exact ⟨rfl, HBE.out⟩
  · have t0 : (chk ⟨x0, x1, x2, x3⟩ != 0) = true := by simpa using h0
    have hst := sets_heap0 (vs := [.int .i64 0, .int .i64 0, .int .i64 0, .int .i64 0]) (us := [.int .i64 0, .int .i64 0, .int .i64 0, .int .i64 0]) hz4 rfl; have hbe := sets_below (Nat.le_refl w.heap.size) [.int .i64 0, .int .i64 0, .int .i64 0, .int .i64 0] 0 w4 HB4.out; simp only [sets, Nat.zero_add, Nat.reduceAdd] at hst hbe; have HST := Lib.hid hst; have HBE := Lib.hid hbe; clear hst hbe hz4 HCASE h0
    go_wp2
    refine bodyPost_ret (results_cell2 rfl _ _ w.heap.size _ _ _ _ rfl HST.out Try.underlying52 rfl (by kernel_rfl)) rfl ?_; exact ⟨rfl, HBE.out⟩
set_option maxRecDepth 100000 in
set_option maxHeartbeats 2000000 in
theorem rgetid_six (A : Option Addr) (c : Nat) (l : List UInt8) (w : World) (hR : Rd w A 6 c l) : Calls Try.prog 75 #[.slice A 6 c] w fun e w' => e = .returned (.tuple #[idv (getI l), .int .i64 (getIE l)]) ∧ Below w.heap.size w w' := by
  have hck := fun W => rcheck_any (gid l) W
  have hl := hR.len; have hcase : (chk (gid l) = 0 ∧ getI l = gid l ∧ getIE l = 0) ∨ (chk (gid l) ≠ 0 ∧ getI l = mid0 ∧ getIE l = 2) := by
    by_cases h : chk (gid l) = 0
    · exact .inl ⟨h, if_pos ⟨hl, h⟩, if_pos ⟨hl, h⟩⟩
    · exact .inr ⟨h, if_neg (fun e => h e.2), if_neg (fun e => h e.2)⟩
  have HG1 := Lib.hid (fun W h => rget2 A 6 c l 2 W h (by omega) (by omega)); have HG2 := Lib.hid (fun W h => rget2 A 6 c l 4 W h (by omega) (by omega)); obtain ⟨b, off, rfl, hb, hc⟩ := hR.at_ (by omega); have c0 := hc 0 (l.getD 0 0) (by simp [hl]); have c1 := hc 1 (l.getD 1 0) (by simp [hl]); unfold bv at c0 c1; have g0 : gid l = ⟨(nat8 l 0 : Nat), (nat8 l 1 : Nat), (nat8 l 2 * 256 + nat8 l 3 : Nat), (nat8 l 4 * 256 + nat8 l 5 : Nat)⟩ := rfl; have lt8 : ∀ k, nat8 l k < 256 := fun k => UInt8.toNat_lt _
  obtain ⟨x0, hx0⟩ : ∃ x, x = nat8 l 0 := ⟨_, rfl⟩; obtain ⟨x1, hx1⟩ : ∃ x, x = nat8 l 1 := ⟨_, rfl⟩; obtain ⟨x2, hx2⟩ : ∃ x, x = nat8 l 2 * 256 + nat8 l 3 := ⟨_, rfl⟩; obtain ⟨x3, hx3⟩ : ∃ x, x = nat8 l 4 * 256 + nat8 l 5 := ⟨_, rfl⟩; have p0 : x0 < 256 := by rw [hx0]; exact lt8 0
  have p1 : x1 < 256 := by rw [hx1]; exact lt8 1
  have p2 : x2 < 65536 := by have := lt8 2; have := lt8 3; omega
  have p3 : x3 < 65536 := by have := lt8 4; have := lt8 5; omega
  change w.cell? ⟨b, off + 0, none⟩ = some (.int .u8 (nat8 l 0 : Nat)) at c0
  change w.cell? ⟨b, off + 1, none⟩ = some (.int .u8 (nat8 l 1 : Nat)) at c1
  change Hid (∀ W, Rd W _ 6 c l → Calls Try.prog 58 #[_, .int .i64 2, .int .i64 2] W fun e w' => e = .returned (.tuple #[.int .u64 (nat8 l 2 * 256 + nat8 l 3 : Nat), .int .i64 0]) ∧ _) at HG1
  change Hid (∀ W, Rd W _ 6 c l → Calls Try.prog 58 #[_, .int .i64 4, .int .i64 2] W fun e w' => e = .returned (.tuple #[.int .u64 (nat8 l 4 * 256 + nat8 l 5 : Nat), .int .i64 0]) ∧ _) at HG2
  rw [← hx0] at c0 g0; rw [← hx1] at c1 g0; rw [← hx2] at HG1 g0; rw [← hx3] at HG2 g0; rw [g0] at hck hcase; have HCK := Lib.hid hck; have HR := Lib.hid hR; have HCASE := Lib.hid hcase; clear hck hcase g0 hx0 hx1 hx2 hx3 lt8 hc hR hl; unfold idv at HCK; simp only at HCK; obtain ⟨G, hG⟩ : ∃ G, G = getI l := ⟨_, rfl⟩; obtain ⟨GE, hGE⟩ : ∃ G, G = getIE l := ⟨_, rfl⟩; rw [← hG, ← hGE] at HCASE ⊢; clear hG hGE; rw [Nat.add_zero] at c0
  go_enter Try.func75, Try.ntmps75
  go_wp2_with fail
  have hb1 := (Below.refl w.heap.size w).alloc (Nat.le_refl _) (.cells #[.int .i64 0, .int .i64 0, .int .i64 0, .int .i64 0] 52); refine (HG1.out _ (HR.out.below hb1)).mono ?_; rintro e w1 ⟨rfl, hb2⟩; have hb3 := hb1.trans (hb2.mono hb1.size)
  go_wp2_with fail
  refine (HG2.out _ (HR.out.below hb3)).mono ?_; rintro e w2 ⟨rfl, hb4⟩; have HZ := Lib.hid ((hb4.block w.heap.size (by have := hb2.size; simp at this; omega)).trans ((hb2.block w.heap.size (by simp)).trans (heap_alloc_new w (.cells #[.int .i64 0, .int .i64 0, .int .i64 0, .int .i64 0] 52)))); have HB := Lib.hid (hb3.trans (hb4.mono hb3.size)); have d0 := (HB.out.cell (p := ⟨b, off, none⟩) hb).trans c0; have d1 := (HB.out.cell (p := ⟨b, off + 1, none⟩) hb).trans c1; have hz2 : w.heap.size < w2.heap.size := by have := hb2.size; have := hb4.size; simp at *; omega
  have hbl : b < w2.heap.size := by have := HB.out.size; omega
  have d0' := fun o => (World.cell?_alloc_lt w2 o (a := ⟨b, off, none⟩) hbl).trans d0
  have d1' := fun o => (World.cell?_alloc_lt w2 o (a := ⟨b, off + 1, none⟩) hbl).trans d1
  clear hb1 hb2 hb3 hb4 c0 c1
  go_wp2_with fail
  go_region
  obtain ⟨w3, hw3⟩ : ∃ w3, w3 = (w2.alloc (.cells #[.int .i64 x0, .int .i64 x1, .int .i64 x2, .int .i64 x3] 52)).drew := ⟨_, rfl⟩; have hb3 : Below w2.heap.size w2 w3 := by rw [hw3]; exact ((Below.refl _ _).alloc (Nat.le_refl _) _).drew
  have hn3 : w3.heap[w2.heap.size]? = some (.cells #[.int .i64 x0, .int .i64 x1, .int .i64 x2, .int .i64 x3] 52) := by rw [hw3]; exact heap_alloc_new _ _
  rw [← hw3]; clear hw3 d0 d1 d0' d1'; have k0 := cell_of_cells hn3 0; have k1 := cell_of_cells hn3 1; have k2 := cell_of_cells hn3 2; have k3 := cell_of_cells hn3 3; have hlt3 : w2.heap.size < w3.heap.size := (Array.getElem?_eq_some_iff.1 hn3).1
  go_wp2_with fail
  refine (HCK.out _).mono ?_; rintro e w4 ⟨rfl, hb4⟩; have hz4 := (hb4.block w.heap.size (by omega)).trans ((hb3.block w.heap.size hz2).trans HZ.out); have hn4 := (hb4.block w2.heap.size hlt3).trans hn3; have HB4 := Lib.hid ((HB.out.trans (hb3.mono HB.out.size)).trans (hb4.mono (by have := HB.out.size; omega))); have i0 := cell_of_cells hn4 0; have i1 := cell_of_cells hn4 1; have i2 := cell_of_cells hn4 2; have i3 := cell_of_cells hn4 3; have r0 := cell_of_cells hz4 0; have r1 := cell_of_cells hz4 1; have r2 := cell_of_cells hz4 2; have r3 := cell_of_cells hz4 3; have f0 := frozen_of_row w4 w.heap.size 0 _ _ hz4; have f1 := frozen_of_row w4 w.heap.size 1 _ _ hz4; have f2 := frozen_of_row w4 w.heap.size 2 _ _ hz4; have f3 := frozen_of_row w4 w.heap.size 3 _ _ hz4; clear k0 k1 k2 k3 hb3 hb4 hn3 hn4
  rcases HCASE.out with ⟨h0, rfl, rfl⟩ | ⟨h0, rfl, rfl⟩
  · rw [h0]; have hst := sets_heap0 (vs := [.int .i64 x0, .int .i64 x1, .int .i64 x2, .int .i64 x3]) (us := [.int .i64 0, .int .i64 0, .int .i64 0, .int .i64 0]) hz4 rfl; have hbe := sets_below (Nat.le_refl w.heap.size) [.int .i64 x0, .int .i64 x1, .int .i64 x2, .int .i64 x3] 0 w4 HB4.out; simp only [sets, Nat.zero_add, Nat.reduceAdd] at hst hbe; have HST := Lib.hid hst; have HBE := Lib.hid hbe; clear hst hbe hz4 HCASE h0
    go_wp2
    refine bodyPost_ret (results_cell2 rfl _ _ w.heap.size _ _ _ _ rfl HST.out Try.underlying52 rfl (by kernel_rfl)) rfl ?_; exact ⟨rfl, HBE.out⟩
  · have t0 : (chk ⟨x0, x1, x2, x3⟩ != 0) = true := by simpa using h0
    have hst := sets_heap0 (vs := [.int .i64 0, .int .i64 0, .int .i64 0, .int .i64 0]) (us := [.int .i64 0, .int .i64 0, .int .i64 0, .int .i64 0]) hz4 rfl; have hbe := sets_below (Nat.le_refl w.heap.size) [.int .i64 0, .int .i64 0, .int .i64 0, .int .i64 0] 0 w4 HB4.out; simp only [sets, Nat.zero_add, Nat.reduceAdd] at hst hbe; have HST := Lib.hid hst; have HBE := Lib.hid hbe; clear hst hbe hz4 HCASE h0
    go_wp2
    refine bodyPost_ret (results_cell2 rfl _ _ w.heap.size _ _ _ _ rfl HST.out Try.underlying52 rfl (by kernel_rfl)) rfl ?_; exact ⟨rfl, HBE.out⟩

set_option maxRecDepth 100000 in
set_option maxHeartbeats 2000000 in
theorem getid_not (A : Option Addr) (n c : Nat) (w : World) (hn : n ≠ 6) : Calls Try.prog 57 #[.slice A n c] w fun e w' => e = .returned (.tuple #[idv mid0, .int .i64 2]) ∧ Below w.heap.size w w' := by
  have t0 : ((n : Int) != 6) = true := by simp; omega
  clear hn; unfold idv mid0; have hz := heap_alloc_new w (.cells #[.int .i64 0, .int .i64 0, .int .i64 0, .int .i64 0] 52); have hbe := (Below.refl w.heap.size w).alloc (Nat.le_refl _) (.cells #[.int .i64 0, .int .i64 0, .int .i64 0, .int .i64 0] 52); have r0 := cell_of_cells hz 0; have r1 := cell_of_cells hz 1; have r2 := cell_of_cells hz 2; have r3 := cell_of_cells hz 3; have f0 := frozen_of_row _ w.heap.size 0 _ _ hz; have f1 := frozen_of_row _ w.heap.size 1 _ _ hz; have f2 := frozen_of_row _ w.heap.size 2 _ _ hz; have f3 := frozen_of_row _ w.heap.size 3 _ _ hz; have HST := Lib.hid hz; have HBE := Lib.hid hbe; clear hbe hz
  go_enter Try.func57, Try.ntmps57
  go_wp2
  refine bodyPost_ret (results_cell2 rfl _ _ w.heap.size _ _ _ _ rfl HST.out Try.underlying52 rfl (by kernel_rfl)) rfl ?_; exact ⟨rfl, HBE.out⟩
theorem getid_any (A : Option Addr) (n c : Nat) (l : List UInt8) (w : World) (hR : Rd w A n c l) : Calls Try.prog 57 #[.slice A n c] w fun e w' => e = .returned (.tuple #[idv (getI l), .int .i64 (getIE l)]) ∧ Below w.heap.size w w' := by
  by_cases h : n = 6
  · subst h; exact getid_six A c l w hR
  · have e1 : getI l = mid0 := if_neg (fun e => h (by rw [← hR.len]; exact e.1)); have e2 : getIE l = 2 := if_neg (fun e => h (by rw [← hR.len]; exact e.1)); rw [e1, e2]; exact getid_not A n c w h

set_option maxRecDepth 100000 in
set_option maxHeartbeats 2000000 in
theorem rgetid_not (A : Option Addr) (n c : Nat) (w : World) (hn : n ≠ 6) : Calls Try.prog 75 #[.slice A n c] w fun e w' => e = .returned (.tuple #[idv mid0, .int .i64 2]) ∧ Below w.heap.size w w' := by
  have t0 : ((n : Int) != 6) = true := by simp; omega
  clear hn; unfold idv mid0; have hz := heap_alloc_new w (.cells #[.int .i64 0, .int .i64 0, .int .i64 0, .int .i64 0] 52); have hbe := (Below.refl w.heap.size w).alloc (Nat.le_refl _) (.cells #[.int .i64 0, .int .i64 0, .int .i64 0, .int .i64 0] 52); have r0 := cell_of_cells hz 0; have r1 := cell_of_cells hz 1; have r2 := cell_of_cells hz 2; have r3 := cell_of_cells hz 3; have f0 := frozen_of_row _ w.heap.size 0 _ _ hz; have f1 := frozen_of_row _ w.heap.size 1 _ _ hz; have f2 := frozen_of_row _ w.heap.size 2 _ _ hz; have f3 := frozen_of_row _ w.heap.size 3 _ _ hz; have HST := Lib.hid hz; have HBE := Lib.hid hbe; clear hbe hz
  go_enter Try.func75, Try.ntmps75
  go_wp2
  refine bodyPost_ret (results_cell2 rfl _ _ w.heap.size _ _ _ _ rfl HST.out Try.underlying52 rfl (by kernel_rfl)) rfl ?_; exact ⟨rfl, HBE.out⟩
theorem rgetid_any (A : Option Addr) (n c : Nat) (l : List UInt8) (w : World) (hR : Rd w A n c l) : Calls Try.prog 75 #[.slice A n c] w fun e w' => e = .returned (.tuple #[idv (getI l), .int .i64 (getIE l)]) ∧ Below w.heap.size w w' := by
  by_cases h : n = 6
  · subst h; exact rgetid_six A c l w hR
  · have e1 : getI l = mid0 := if_neg (fun e => h (by rw [← hR.len]; exact e.1)); have e2 : getIE l = 2 := if_neg (fun e => h (by rw [← hR.len]; exact e.1)); rw [e1, e2]; exact rgetid_not A n c w h
end Go.Proofs.Ytcnlgcmooegfkaa
