/-
  A MESSAGE OUT OF BYTES: the document's.
-/
import Derived.Test.YtcnlgcmooegfkaaMsgGet2
namespace Go.Proofs.Ytcnlgcmooegfkaa
open Go.RowKit Mg

set_option maxRecDepth 100000 in
set_option maxHeartbeats 2000000 in
theorem rget_short (A : Option Addr) (n c : Nat) (l : List UInt8) (w : World) (hl : l.length = n) (hn : n < 7) : Calls Try.prog 59 #[.slice A n c] w (GetP w l) := by
  have hz := heap_alloc_new w (.cells #[.int .i64 0, .int .i64 0, .int .i64 0, .int .i64 0, .slice none 0 0] 54); have HP := Lib.hid (fun W' => GetP.bad (w := w) (w' := W') (l := l) (fun h => by have := h.1; omega)); have b1 : (n : Int) < 7 := by omega
  have r0 := cell_of_cells hz 0; have r1 := cell_of_cells hz 1; have r2 := cell_of_cells hz 2; have r3 := cell_of_cells hz 3; have r4 := cell_of_cells hz 4; have f0 := frozen_of_row _ w.heap.size 0 _ _ hz; have f1 := frozen_of_row _ w.heap.size 1 _ _ hz; have f2 := frozen_of_row _ w.heap.size 2 _ _ hz; have f3 := frozen_of_row _ w.heap.size 3 _ _ hz; have f4 := frozen_of_row _ w.heap.size 4 _ _ hz; have HST := Lib.hid hz; clear hz hl hn
  go_enter Try.func59, Try.ntmps59
  go_wp2
  refine bodyPost_ret (results_cell2 rfl _ _ w.heap.size _ _ _ _ rfl HST.out Try.underlying54 rfl (by kernel_rfl)) rfl ?_; exact HP.out _ ((Below.refl w.heap.size w).alloc (Nat.le_refl _) _)

set_option maxRecDepth 100000 in
set_option maxHeartbeats 2000000 in
theorem rget_long (A : Option Addr) (n c : Nat) (l : List UInt8) (w : World) (hl : l.length = n) (hn : 54 < n) : Calls Try.prog 59 #[.slice A n c] w (GetP w l) := by
  have hz := heap_alloc_new w (.cells #[.int .i64 0, .int .i64 0, .int .i64 0, .int .i64 0, .slice none 0 0] 54); have HP := Lib.hid (fun W' => GetP.bad (w := w) (w' := W') (l := l) (fun h => by have := h.2.1; omega)); have b1 : (54 : Int) < (n : Int) := by omega
  have b2 : ¬ (n : Int) < 7 := by omega
  have r0 := cell_of_cells hz 0; have r1 := cell_of_cells hz 1; have r2 := cell_of_cells hz 2; have r3 := cell_of_cells hz 3; have r4 := cell_of_cells hz 4; have f0 := frozen_of_row _ w.heap.size 0 _ _ hz; have f1 := frozen_of_row _ w.heap.size 1 _ _ hz; have f2 := frozen_of_row _ w.heap.size 2 _ _ hz; have f3 := frozen_of_row _ w.heap.size 3 _ _ hz; have f4 := frozen_of_row _ w.heap.size 4 _ _ hz; have HST := Lib.hid hz; clear hz hl hn
  go_enter Try.func59, Try.ntmps59
  go_wp2
  refine bodyPost_ret (results_cell2 rfl _ _ w.heap.size _ _ _ _ rfl HST.out Try.underlying54 rfl (by kernel_rfl)) rfl ?_; exact HP.out _ ((Below.refl w.heap.size w).alloc (Nat.le_refl _) _)

set_option maxRecDepth 100000 in
set_option maxHeartbeats 4000000 in
theorem rget_mid (A : Option Addr) (n c : Nat) (l : List UInt8) (w : World) (hR : Rd w A n c l) (h7 : 7 ≤ n) (h54 : n ≤ 54) : Calls Try.prog 59 #[.slice A n c] w (GetP w l) := by
  have hn : 6 ≤ n := by omega
  have HG := Lib.hid (fun W (h : Below w.heap.size w W) => rgetid_any A 6 c (l.take 6) W ((hR.below h).take hn)); have hl := hR.len; have hcap := hR.cap; obtain ⟨b, off, rfl, hbl, _⟩ := hR.at_ (by omega); have hd := hR.drop hn; obtain ⟨B6, hB6⟩ : ∃ B, B = (if c = 6 then some (⟨b, off, none⟩ : Addr) else some ⟨b, off + 6, none⟩) := ⟨_, rfl⟩; have hd6 : Rd w B6 (n - 6) (c - 6) (l.drop 6) := by
    rw [hB6]
    simpa [Addr.add] using hd
  have hcase : (gok l ∧ getIE (l.take 6) = 0 ∧ getI (l.take 6) = gid (l.take 6)) ∨ (¬ gok l ∧ getIE (l.take 6) = 2) := by
    have h6 : (l.take 6).length = 6 := by simp; omega
    by_cases h : chk (gid (l.take 6)) = 0
    · exact .inl ⟨⟨by omega, by omega, h⟩, if_pos ⟨h6, h⟩, if_pos ⟨h6, h⟩⟩
    · exact .inr ⟨fun k => h k.2.2, if_neg (fun k => h k.2)⟩
  have HP := Lib.hid (fun W' => GetP.bad (w := w) (w' := W') (l := l)); have HCASE := Lib.hid hcase; have HD6 := Lib.hid hd6; have b1 : (7 : Int) ≤ (n : Int) := by omega
  have b2 : (n : Int) ≤ 54 := by omega
  have HB6 := Lib.hid hB6; have HLN := Lib.hid hl; clear hcase hd hd6 hR hB6 hl; obtain ⟨G, hG⟩ : ∃ G, G = getI (l.take 6) := ⟨_, rfl⟩; rw [← hG] at HG HCASE; obtain ⟨GE, hGE⟩ : ∃ G, G = getIE (l.take 6) := ⟨_, rfl⟩; rw [← hGE] at HG HCASE; clear hG hGE; obtain ⟨io, id, ie, ic⟩ := G; unfold idv at HG
  go_enter Try.func59, Try.ntmps59
  go_wp2_with fail
  have hb1 := (Below.refl w.heap.size w).alloc (Nat.le_refl _) (.cells #[.int .i64 0, .int .i64 0, .int .i64 0, .int .i64 0, .slice none 0 0] 54); refine (HG.out _ hb1).mono ?_; rintro e w1 ⟨rfl, hb2⟩; have hs1 : w.heap.size < w1.heap.size := by have := hb2.size; simp at this; omega
  obtain ⟨w2, hw2⟩ : ∃ w2, w2 = w1.alloc (.cells #[.int .i64 io, .int .i64 id, .int .i64 ie, .int .i64 ic] 52) := ⟨_, rfl⟩; have hn2 : w2.heap[w1.heap.size]? = some (.cells #[.int .i64 io, .int .i64 id, .int .i64 ie, .int .i64 ic] 52) := by rw [hw2]; exact heap_alloc_new _ _
  have hb12 : Below w1.heap.size w1 w2 := by rw [hw2]; exact (Below.refl _ _).alloc (Nat.le_refl _) _
  have hz1 : w1.heap[w.heap.size]? = some (.cells #[.int .i64 0, .int .i64 0, .int .i64 0, .int .i64 0, .slice none 0 0] 54) := (hb2.block w.heap.size (by simp)).trans (heap_alloc_new w _); have hz2 : w2.heap[w.heap.size]? = some (.cells #[.int .i64 0, .int .i64 0, .int .i64 0, .int .i64 0, .slice none 0 0] 54) := (hb12.block _ hs1).trans hz1; have hbw2 := (hb1.trans (hb2.mono hb1.size)).trans (hb12.mono (by omega)); have hs2 : w1.heap.size < w2.heap.size := (Array.getElem?_eq_some_iff.1 hn2).1; have r0 := cell_of_cells hz1 0; have r1 := cell_of_cells hz1 1; have r2 := cell_of_cells hz1 2; have r3 := cell_of_cells hz1 3; have r4 := cell_of_cells hz1 4; have f0 := frozen_of_row w1 w.heap.size 0 _ _ hz1; have f1 := frozen_of_row w1 w.heap.size 1 _ _ hz1; have f2 := frozen_of_row w1 w.heap.size 2 _ _ hz1; have f3 := frozen_of_row w1 w.heap.size 3 _ _ hz1; have f4 := frozen_of_row w1 w.heap.size 4 _ _ hz1; have HZ2 := Lib.hid hz2; have HN2 := Lib.hid hn2; have HB2 := Lib.hid hbw2; have hsw2 : w.heap.size ≤ w2.heap.size := by omega
  have HZ1 := Lib.hid hz1; have HB1 := Lib.hid (hb1.trans (hb2.mono hb1.size)); clear hb1 hb2 hb12 hz1 hz2 hn2 hbw2; have hcase2 : (GE = 0 ∧ gok l ∧ (⟨io, id, ie, ic⟩ : Mid) = gid (l.take 6)) ∨ (¬ gok l ∧ GE = 2) := by
    rcases HCASE.out with ⟨h1, h2, h4⟩ | ⟨h1, h2⟩
    · exact .inl ⟨h2, h1, h4⟩
    · exact .inr ⟨h1, h2⟩
  clear HCASE
  rcases hcase2 with ⟨rfl, hc⟩ | ⟨h0, rfl⟩
  · have HC2 := Lib.hid hc; clear hc r0 r1 r2 r3 r4 f0 f1 f2 f3 f4
    go_wp2_with fail
    rw [← hw2]; clear hw2; have HDZ := Lib.hid (HD6.out.below HB2.out); have hws2 : w.heap.size < w2.heap.size := by omega
    have s1 := Lib.hid (show (w2.alloc (.cells #[] 5)).drew.ownsRow w2.heap.size 5 1 (.slice (some ⟨w2.heap.size, 0, none⟩) 0 0) 0 [] from own_empty w2 w2.heap.size _ _ 1 rfl (Nat.le_refl _)); have s2 := Lib.hid (show Src (w2.alloc (.cells #[] 5)).drew B6 (n - 6) 1 (bs (l.drop 6)) from (HDZ.out.stays ((Stays.alloc w2 (.cells #[] 5)).trans (Stays.drew _))).src); have s3 := Lib.hid (show w2.heap.size ≤ (w2.alloc (.cells #[] 5)).drew.heap.size by rw [heap_drew]; simp); have k0 := fun o => (World.cell?_alloc_lt w2 o (a := ⟨w1.heap.size, 0, none⟩) hs2).trans (cell_of_cells HN2.out 0)
    have k1 := fun o => (World.cell?_alloc_lt w2 o (a := ⟨w1.heap.size, 1, none⟩) hs2).trans (cell_of_cells HN2.out 1)
    have k2 := fun o => (World.cell?_alloc_lt w2 o (a := ⟨w1.heap.size, 2, none⟩) hs2).trans (cell_of_cells HN2.out 2)
    have k3 := fun o => (World.cell?_alloc_lt w2 o (a := ⟨w1.heap.size, 3, none⟩) hs2).trans (cell_of_cells HN2.out 3)
    have i0 := cell_of_cells HN2.out 0; have i1 := cell_of_cells HN2.out 1; have i2 := cell_of_cells HN2.out 2; have i3 := cell_of_cells HN2.out 3; have hc6 : ¬ c = 6 := by omega
    have hB := HB6.out; rw [if_neg hc6] at hB; subst hB; have b3 : (6 : Int) ≤ (n : Int) := by omega
    go_region_law (((apply step_app (hE := elemB) (s := .tmp 25) (x := .tmp 27) (v := .slice (some ⟨w2.heap.size, 0, none⟩) 0 0) (A := some ⟨b, off + 6, none⟩) (m := n - 6) (c := c - 6) (hown := s1.out) (hs := s2.out) (N := n - 6) (hbase := s3.out)) <;> first | rfl | omega | skip); intro A2 c2 w4 hown4 hg4 hat4; (have HB4 := Lib.hid (below_app' ((Below.refl w2.heap.size w2).alloc (Nat.le_refl _) _).drew s1.out hg4 (Nat.le_refl _) s3.out)); (have HZ4 := Lib.hid ((HB4.out.block w.heap.size hws2).trans HZ2.out)); (have HN4 := Lib.hid ((HB4.out.block w1.heap.size hs2).trans HN2.out)); (have j0 := cell_of_cells HN4.out 0); (have j1 := cell_of_cells HN4.out 1); (have j2 := cell_of_cells HN4.out 2); (have j3 := cell_of_cells HN4.out 3); (have r0 := cell_of_cells HZ4.out 0); (have f0 := frozen_of_row w4 w.heap.size 0 _ _ HZ4.out); (have r1 := cell_of_cells HZ4.out 1); (have f1 := frozen_of_row w4 w.heap.size 1 _ _ HZ4.out); (have r2 := cell_of_cells HZ4.out 2); (have f2 := frozen_of_row w4 w.heap.size 2 _ _ HZ4.out); (have r3 := cell_of_cells HZ4.out 3); (have f3 := frozen_of_row w4 w.heap.size 3 _ _ HZ4.out); (have r4 := cell_of_cells HZ4.out 4); (have f4 := frozen_of_row w4 w.heap.size 4 _ _ HZ4.out))
    all_goals
      have HOW := Lib.hid hown4; clear hown4 hg4 hat4; have HB5 := Lib.hid (HB2.out.trans (HB4.out.mono hsw2)); have hst := sets_heap0 (vs := [.int .i64 io, .int .i64 id, .int .i64 ie, .int .i64 ic, .slice A2 (n - 6) c2]) (us := [.int .i64 0, .int .i64 0, .int .i64 0, .int .i64 0, .slice none 0 0]) HZ4.out rfl; have hbe := sets_below (Nat.le_refl w.heap.size) [.int .i64 io, .int .i64 id, .int .i64 ie, .int .i64 ic, .slice A2 (n - 6) c2] 0 w4 HB5.out; have hs4 := Sl.of_row HOW.out; have hsl : Sl (sets w.heap.size 0 [.int .i64 io, .int .i64 id, .int .i64 ie, .int .i64 ic, .slice A2 (n - 6) c2] w4) w.heap.size 5 (.slice A2 (n - 6) c2) (n - 6) (bs (l.drop 6)) :=
        (hs4.kept fun k hk => sets_other _ _ _ _ (by have := (hs4.lt k hk).1; omega)).base fun k hk => by have := (hs4.lt k hk).1; omega
      simp only [sets, Nat.zero_add, Nat.reduceAdd] at hst hbe hsl; have HST := Lib.hid hst; have HBE := Lib.hid hbe; have HSL := Lib.hid hsl; have hm : getM l = ⟨io, id, ie, ic⟩ := by rw [getM, if_pos HC2.out.1, HC2.out.2]
      have hd : getD' l = l.drop 6 := if_pos HC2.out.1; have he : getE l = 0 := if_pos HC2.out.1; have HMD := Lib.hid (And.intro hm (And.intro hd he)); clear hst hbe hs4 hsl hm hd he HC2
      go_wp2
      refine bodyPost_ret (results_cell2 rfl _ _ w.heap.size _ _ _ _ rfl HST.out Try.underlying54 rfl (by kernel_rfl)) rfl ?_; obtain ⟨hm, hd, he⟩ := HMD.out; refine ⟨A2, n - 6, c2, ?_, ?_, ?_, HBE.out⟩
      · rw [hm, he]; rfl
      · rw [hd, List.length_drop, HLN.out]
      · rw [hd]; exact HSL.out
  · have hst := sets_heap0 (vs := [.int .i64 0, .int .i64 0, .int .i64 0, .int .i64 0, .slice none 0 0]) (us := [.int .i64 0, .int .i64 0, .int .i64 0, .int .i64 0, .slice none 0 0]) HZ1.out rfl; have hbe := (sets_below (Nat.le_refl w.heap.size) [.int .i64 0, .int .i64 0, .int .i64 0, .int .i64 0, .slice none 0 0] 0 w1 HB1.out).alloc (by rw [sets_size]; omega) (.cells #[.int .i64 io, .int .i64 id, .int .i64 ie, .int .i64 ic] 52); have hst := (heap_alloc_old _ (.cells #[.int .i64 io, .int .i64 id, .int .i64 ie, .int .i64 ic] 52) (by rw [sets_size]; exact hs1)).trans hst; simp only [sets, Nat.zero_add, Nat.reduceAdd] at hst hbe; have HST := Lib.hid hst; have HBE := Lib.hid hbe; have HP2 := Lib.hid (fun W' => HP.out W' h0); clear hst hbe h0; clear hw2
    go_wp2
    refine bodyPost_ret (results_cell2 rfl _ _ w.heap.size _ _ _ _ rfl HST.out Try.underlying54 rfl (by kernel_rfl)) rfl ?_; exact HP2.out _ HBE.out

theorem rget_any (A : Option Addr) (n c : Nat) (l : List UInt8) (w : World) (hR : Rd w A n c l) : Calls Try.prog 59 #[.slice A n c] w (GetP w l) := by
  rcases (by omega : n < 7 ∨ 54 < n ∨ (7 ≤ n ∧ n ≤ 54)) with h | h | ⟨h, k⟩
  · exact rget_short A n c l w hR.len h
  · exact rget_long A n c l w hR.len h
  · exact rget_mid A n c l w hR h k
theorem get_any (A : Option Addr) (n c : Nat) (l : List UInt8) (w : World) (hR : Rd w A n c l) (hN : n ≤ 140737488351232) : Calls Try.prog 34 #[.slice A n c] w (GetP w l) := by
  by_cases h : n < 6
  · exact get_short A n c l w hR.len h
  · exact get_long A n c l w hR (by omega) hN
end Go.Proofs.Ytcnlgcmooegfkaa
