/-
  THE ID OF A TEXT: the program's walk.
-/
import Derived.Test.YtmdjjlgaflpcfaaDoorMsgDigits
namespace Go.Proofs.YtmdjjlgaflpcfaaDoor
open Go.RowKit Mg

theorem ext_take (l : List UInt8) (i : Nat) : (⟨l.toArray⟩ : ByteArray).extract 0 i = ⟨(l.take i).toArray⟩ := by
  apply ByteArray.ext
  rw [ByteArray.data_extract]
  simp
theorem ext_drop (l : List UInt8) (i : Nat) : (⟨l.toArray⟩ : ByteArray).extract i l.length = ⟨(l.drop i).toArray⟩ := by
  apply ByteArray.ext
  rw [ByteArray.data_extract]
  simp
  exact List.take_of_length_le (by simp)
set_option maxRecDepth 100000 in
set_option maxHeartbeats 2000000 in
theorem lcut_any (l : List UInt8) (c : UInt8) (w : World) (hl : l.length ≤ 281474976710656) : Calls Tryd.prog 43 #[.string ⟨l.toArray⟩, .string ⟨#[c]⟩] w fun e w' => ∃ b, e = .returned (.tuple #[.string ⟨(cut1 l c).1.toArray⟩, .string ⟨(cut1 l c).2.toArray⟩, .bool b]) ∧ Below w.heap.size w w' := by
  have hI := fun W => Tryd.stringslite_Index_one ⟨l.toArray⟩ c W
  rw [show (⟨l.toArray⟩ : ByteArray).data.toList = l from rfl] at hI
  have hge := Lib.indexByte_ge l c
  by_cases hm : Lib.indexByte l c = -1
  · rw [cut1_miss l c hm]
    rw [hm] at hI
    have HI := Lib.hid hI
    clear hI hge hm
    go_enter Tryd.func43, Tryd.ntmps43
    go_wp2_with fail
    refine (HI.out _).mono ?_
    rintro e w1 ⟨rfl, rfl⟩
    go_wp2
    go_ret3
    exact ⟨false, rfl, Below.refl _ _⟩
  · obtain ⟨i, hi⟩ := Int.eq_ofNat_of_zero_le (show 0 ≤ Lib.indexByte l c by omega)
    obtain ⟨hlt, hc⟩ := cut1_hit l c i hi
    rw [hc]
    rw [hi] at hI
    have HI := Lib.hid hI
    have c1 : (0 : Int) ≤ (i : Int) := by omega
    have c2 : (i : Int) ≤ (l.length : Int) := by omega
    have c3 : (0 : Int) ≤ (i : Int) + 1 := by omega
    have c4 : (i : Int) + 1 ≤ (l.length : Int) := by omega
    clear hI hge hm hi hc
    go_enter Tryd.func43, Tryd.ntmps43
    go_wp2_with fail
    refine (HI.out _).mono ?_
    rintro e w1 ⟨rfl, rfl⟩
    go_wp2_with fail
    go_region
    go_wp2
    go_ret3
    refine ⟨true, ?_, (Below.refl _ _).drew⟩
    have e1 := ext_take l i
    have e2 := ext_drop l (i + 1)
    show Ending.returned (.tuple #[.string ((⟨l.toArray⟩ : ByteArray).extract 0 i), .string ((⟨l.toArray⟩ : ByteArray).extract (i + 1) l.length), .bool true]) = _
    rw [e1, e2]

set_option maxRecDepth 100000 in
theorem cut_any (l : List UInt8) (c : UInt8) (w : World) (hl : l.length ≤ 281474976710656) : Calls Tryd.prog 39 #[.string ⟨l.toArray⟩, .string ⟨#[c]⟩] w fun e w' => ∃ b, e = .returned (.tuple #[.string ⟨(cut1 l c).1.toArray⟩, .string ⟨(cut1 l c).2.toArray⟩, .bool b]) ∧ Below w.heap.size w w' := by
  have HI := Lib.hid (fun W => lcut_any l c W hl)
  obtain ⟨x, hx⟩ : ∃ x, x = (cut1 l c).1 := ⟨_, rfl⟩
  obtain ⟨y, hy⟩ : ∃ x, x = (cut1 l c).2 := ⟨_, rfl⟩
  rw [← hx, ← hy] at HI ⊢
  clear hx hy
  go_enter Tryd.func39, Tryd.ntmps39
  go_wp2_with fail
  refine (HI.out _).mono ?_
  rintro e w1 ⟨b, rfl, hb⟩
  go_wp2
  go_ret3
  exact ⟨b, rfl, hb⟩

/-- what the library's errors are -/
structure Errs (w : World) : Prop where
  es : ∃ ev, w.cell? ⟨1, 0, none⟩ = some ev ∧ (ev = .nilIface ∨ ∃ te pe, ev = .iface te pe)
  er : ∃ ev, w.cell? ⟨2, 0, none⟩ = some ev ∧ (ev = .nilIface ∨ ∃ te pe, ev = .iface te pe)
theorem Errs.below {w w' : World} (h : Errs w) (hb : Below w.heap.size w w') : Errs w' := by
  obtain ⟨⟨e1, h1, k1⟩, e2, h2, k2⟩ := h
  exact ⟨⟨e1, (hb.cell (World.block_lt_of_cell? w _ h1)).trans h1, k1⟩, ⟨e2, (hb.cell (World.block_lt_of_cell? w _ h2)).trans h2, k2⟩⟩
theorem atoi_any (l : List UInt8) (w : World) (hl : l.length ≤ 281474976710656) (he : Errs w) : Calls Tryd.prog 40 #[.string ⟨l.toArray⟩] w fun e w' => ∃ v er, e = .returned (.tuple #[.int .i64 v, er]) ∧ ((er = .nilIface ∧ v = pnum l) ∨ ((∃ te pe, er = .iface te pe) ∧ pnum l = -1)) ∧ Below w.heap.size w w' := by
  obtain ⟨⟨e1, h1, k1⟩, e2, h2, k2⟩ := he
  have hd : (⟨l.toArray⟩ : ByteArray).data.toList = l := rfl
  have hs : (⟨l.toArray⟩ : ByteArray).size ≤ 281474976710656 := hl
  cases h : Lib.atoiAll l with
  | ok v =>
    refine (Tryd.strconv_Atoi_ok ⟨l.toArray⟩ (by omega) v h w).mono ?_
    rintro e w' ⟨rfl, hw⟩
    refine ⟨v, _, rfl, .inl ⟨rfl, by unfold pnum; rw [h]⟩, ?_⟩
    rcases hw with rfl | ⟨t, rfl⟩
    · exact Below.refl _ _
    · exact Lib.bytesWorld_below _ _ _
  | «syntax» =>
    refine (Tryd.strconv_Atoi_syntax ⟨l.toArray⟩ hs h e1 w h1 k1).mono ?_
    rintro e w' ⟨N, rfl, _, _, hb⟩
    exact ⟨_, _, rfl, .inr ⟨⟨_, _, rfl⟩, by unfold pnum; rw [h]⟩, hb⟩
  | range =>
    refine (Tryd.strconv_Atoi_range ⟨l.toArray⟩ hs h e2 w h2 k2).mono ?_
    rintro e w' ⟨N, rfl, _, _, hb⟩
    exact ⟨_, _, rfl, .inr ⟨⟨_, _, rfl⟩, by unfold pnum; rw [h]⟩, hb⟩

theorem cut1_len : ∀ (l : List UInt8) (c : UInt8), (cut1 l c).1.length ≤ l.length ∧ (cut1 l c).2.length ≤ l.length
  | [], _ => ⟨Nat.le_refl _, Nat.le_refl _⟩
  | b :: l, c => by
    unfold cut1
    split
    · simp
    · have := cut1_len l c
      simp
      omega
set_option maxRecDepth 100000 in
set_option maxHeartbeats 2000000 in
theorem next_any (l : List UInt8) (c : UInt8) (g : Nat) (w : World) (hl : l.length ≤ 281474976710656) (he : ∀ W, Below g w W → Errs W) (hg : w.heap[g]? = some (.cells #[.string ⟨l.toArray⟩] 9 (0, 0))) :
    Calls Tryd.prog 38 #[.string ⟨#[c]⟩, .pointer (some ⟨g, 0, none⟩)] w fun e w' => e = .returned (.int .i64 (pnum (cut1 l c).1)) ∧ w'.heap[g]? = some (.cells #[.string ⟨(cut1 l c).2.toArray⟩] 9 (0, 0)) ∧ Below g w w' := by
  have HC := Lib.hid (fun W => cut_any l c W hl)
  have hlen := cut1_len l c
  have hp := pnum_wide (cut1 l c).1
  obtain ⟨x, hx⟩ : ∃ x, x = (cut1 l c).1 := ⟨_, rfl⟩
  obtain ⟨y, hy⟩ : ∃ x, x = (cut1 l c).2 := ⟨_, rfl⟩
  rw [← hx, ← hy] at HC hlen ⊢
  have HA := Lib.hid (fun W h => atoi_any x W (by omega) h)
  obtain ⟨z, hz⟩ : ∃ z, z = pnum x := ⟨_, rfl⟩
  rw [← hz] at HA ⊢
  have hgl := (Array.getElem?_eq_some_iff.1 hg).1
  have k0 := cell_of_cells hg 0
  have HG := Lib.hid hg
  have HE := Lib.hid he
  clear hx hy hz hp hg he hlen
  go_enter Tryd.func38, Tryd.ntmps38
  go_wp2_with fail
  refine (HC.out _).mono ?_
  rintro e w1 ⟨b, rfl, hb1⟩
  have h1 := (hb1.block g hgl).trans HG.out
  have k1 := cell_of_cells h1 0
  have f1 := frozen_of_row w1 g 0 _ _ h1
  have h2 : (w1.setCell ⟨g, 0, none⟩ (.string ⟨y.toArray⟩)).heap[g]? = some (.cells #[.string ⟨y.toArray⟩] 9 (0, 0)) := heap_setCell_same w1 g 0 _ _ _ h1
  have hb2 : Below g w (w1.setCell ⟨g, 0, none⟩ (.string ⟨y.toArray⟩)) := (hb1.mono (Nat.le_of_lt hgl)).setCell (p := ⟨g, 0, none⟩) (Nat.le_refl _) _
  have HE2 := Lib.hid (HE.out _ hb2)
  have H2 := Lib.hid h2
  have HB2 := Lib.hid hb2
  have hgl2 := (Array.getElem?_eq_some_iff.1 h2).1
  clear k0 hb1 h1 h2 hb2
  go_wp2_with fail
  refine (HA.out _ HE2.out).mono ?_
  rintro e w3 ⟨v, er, rfl, hcase, hb3⟩
  have H3 := Lib.hid ((hb3.block g hgl2).trans H2.out)
  have HB3 := Lib.hid (HB2.out.trans (hb3.mono (by omega)))
  clear hb3 k1 f1
  rcases hcase with ⟨rfl, rfl⟩ | ⟨⟨te, pe, rfl⟩, rfl⟩
  · go_wp2
    go_ret
    exact ⟨rfl, H3.out, HB3.out⟩
  · go_wp2
    go_ret
    exact ⟨rfl, H3.out, HB3.out⟩

set_option maxRecDepth 100000 in
set_option maxHeartbeats 1000000 in
theorem parse_any (l : List UInt8) (w : World) (hl : l.length ≤ 281474976710656) (hd : Door w) (he : Errs w) : Calls Tryd.prog 29 #[.string ⟨l.toArray⟩] w fun e w' => e = .returned (.tuple #[idv (parI l), .int .i64 (parE l)]) ∧ Below w.heap.size w w' := by
  have HT := Lib.hid (fun W h => text_any (pI l) W h)
  have hcase : (chk (pI l) = 0 ∧ tB (pI l) = l ∧ parI l = pI l ∧ parE l = 0) ∨ (chk (pI l) = 0 ∧ tB (pI l) ≠ l ∧ parI l = mid0 ∧ parE l = 2) ∨ (chk (pI l) ≠ 0 ∧ parI l = mid0 ∧ parE l = 2) := by
    by_cases h : chk (pI l) = 0
    · have e : tB (pI l) = textB (pI l) := if_pos h
      by_cases h2 : textB (pI l) = l
      · exact .inl ⟨h, by rw [e, h2], if_pos ⟨h, h2⟩, if_pos ⟨h, h2⟩⟩
      · exact .inr (.inl ⟨h, by rw [e]; exact h2, if_neg fun k => h2 k.2, if_neg fun k => h2 k.2⟩)
    · exact .inr (.inr ⟨h, if_neg fun k => h k.1, if_neg fun k => h k.1⟩)
  have hN : pI l = ⟨pnum (cut1 l 62).1, pnum (cut1 (cut1 l 62).2 58).1, pnum (cut1 (cut1 (cut1 l 62).2 58).2 46).1, pnum (cut1 (cut1 (cut1 (cut1 l 62).2 58).2 46).2 32).1⟩ := rfl
  have H0 := Lib.hid (fun g W => next_any l 62 g W hl)
  obtain ⟨s1, h1⟩ : ∃ s, s = (cut1 l 62).2 := ⟨_, rfl⟩
  have l1 : s1.length ≤ 281474976710656 := by have := (cut1_len l 62).2; rw [h1]; omega
  have H1 := Lib.hid (fun g W => next_any s1 58 g W l1)
  obtain ⟨s2, h2⟩ : ∃ s, s = (cut1 s1 58).2 := ⟨_, rfl⟩
  have l2 : s2.length ≤ 281474976710656 := by have := (cut1_len s1 58).2; rw [h2]; omega
  have H2 := Lib.hid (fun g W => next_any s2 46 g W l2)
  obtain ⟨s3, h3⟩ : ∃ s, s = (cut1 s2 46).2 := ⟨_, rfl⟩
  have l3 : s3.length ≤ 281474976710656 := by have := (cut1_len s2 46).2; rw [h3]; omega
  have H3 := Lib.hid (fun g W => next_any s3 32 g W l3)
  rw [← h1, ← h2, ← h3] at hN
  rw [← h1] at H0
  rw [← h2] at H1
  rw [← h3] at H2
  obtain ⟨s4, h4⟩ : ∃ s, s = (cut1 s3 32).2 := ⟨_, rfl⟩
  rw [← h4] at H3
  obtain ⟨n0, e0⟩ : ∃ n, n = pnum (cut1 l 62).1 := ⟨_, rfl⟩
  obtain ⟨n1, e1⟩ : ∃ n, n = pnum (cut1 s1 58).1 := ⟨_, rfl⟩
  obtain ⟨n2, e2⟩ : ∃ n, n = pnum (cut1 s2 46).1 := ⟨_, rfl⟩
  obtain ⟨n3, e3⟩ : ∃ n, n = pnum (cut1 s3 32).1 := ⟨_, rfl⟩
  rw [← e0] at H0 hN
  rw [← e1] at H1 hN
  rw [← e2] at H2 hN
  rw [← e3] at H3 hN
  rw [hN] at HT hcase
  obtain ⟨P, hP⟩ : ∃ P, P = parI l := ⟨_, rfl⟩
  obtain ⟨F, hF⟩ : ∃ P, P = parE l := ⟨_, rfl⟩
  rw [← hP, ← hF] at hcase ⊢
  obtain ⟨tb, htb⟩ : ∃ P, P = tB ⟨n0, n1, n2, n3⟩ := ⟨_, rfl⟩
  obtain ⟨z, hz⟩ : ∃ P, P = chk ⟨n0, n1, n2, n3⟩ := ⟨_, rfl⟩
  rw [← htb, ← hz] at HT hcase
  have HCASE := Lib.hid hcase
  have HD := Lib.hid hd
  have HE := Lib.hid he
  clear hcase hN h1 h2 h3 h4 e0 e1 e2 e3 hP hF htb hz hd he l1 l2 l3
  unfold idv at HT
  simp only at HT
  go_enter Tryd.func29, Tryd.ntmps29
  have hb0 := ((Below.refl w.heap.size w).alloc (Nat.le_refl _) (.cells #[.int .i64 0, .int .i64 0, .int .i64 0, .int .i64 0] 23)).alloc (by simp) (.cells #[.string ⟨l.toArray⟩] 9)
  have hz0 := (heap_alloc_old (w.alloc (.cells #[.int .i64 0, .int .i64 0, .int .i64 0, .int .i64 0] 23)) (.cells #[.string ⟨l.toArray⟩] 9) (r := w.heap.size) (by simp)).trans (heap_alloc_new w (.cells #[.int .i64 0, .int .i64 0, .int .i64 0, .int .i64 0] 23))
  have hg0 := heap_alloc_new (w.alloc (.cells #[.int .i64 0, .int .i64 0, .int .i64 0, .int .i64 0] 23)) (.cells #[.string ⟨l.toArray⟩] 9)
  obtain ⟨g, hg⟩ : ∃ g, g = w.heap.size + 1 := ⟨_, rfl⟩
  rw [show (w.alloc (.cells #[.int .i64 0, .int .i64 0, .int .i64 0, .int .i64 0] 23)).heap.size = g by rw [hg]; simp] at hg0
  have hgw : w.heap.size ≤ g := by omega
  have hwg : w.heap.size < g := by omega
  have HB0 := Lib.hid hb0
  have HZ0 := Lib.hid hz0
  have HG0 := Lib.hid hg0
  clear hb0 hz0 hg0
  go_wp2_with fail
  rw [← hg]
  clear hg
  refine (H0.out g _ (fun W h => HE.out.below (HB0.out.trans (h.mono hgw))) HG0.out).mono ?_
  rintro e w1 ⟨rfl, hg1, hb1⟩
  have HG1 := Lib.hid hg1
  have HZ1 := Lib.hid ((hb1.block w.heap.size hwg).trans HZ0.out)
  have HB1 := Lib.hid (HB0.out.trans (hb1.mono hgw))
  clear hg1 hb1
  go_wp2_with fail
  refine (H1.out g _ (fun W h => HE.out.below (HB1.out.trans (h.mono hgw))) HG1.out).mono ?_
  rintro e w2 ⟨rfl, hg2, hb2⟩
  have HG2 := Lib.hid hg2
  have HZ2 := Lib.hid ((hb2.block w.heap.size hwg).trans HZ1.out)
  have HB2 := Lib.hid (HB1.out.trans (hb2.mono hgw))
  clear hg2 hb2
  go_wp2_with fail
  refine (H2.out g _ (fun W h => HE.out.below (HB2.out.trans (h.mono hgw))) HG2.out).mono ?_
  rintro e w3 ⟨rfl, hg3, hb3⟩
  have HG3 := Lib.hid hg3
  have HZ3 := Lib.hid ((hb3.block w.heap.size hwg).trans HZ2.out)
  have HB3 := Lib.hid (HB2.out.trans (hb3.mono hgw))
  clear hg3 hb3
  go_wp2_with fail
  refine (H3.out g _ (fun W h => HE.out.below (HB3.out.trans (h.mono hgw))) HG3.out).mono ?_
  rintro e w4 ⟨rfl, hg4, hb4⟩
  have HG4 := Lib.hid hg4
  have HZ4 := Lib.hid ((hb4.block w.heap.size hwg).trans HZ3.out)
  have HB4 := Lib.hid (HB3.out.trans (hb4.mono hgw))
  clear hg4 hb4
  obtain ⟨w5, hw5⟩ : ∃ w5, w5 = w4.alloc (.cells #[.int .i64 n0, .int .i64 n1, .int .i64 n2, .int .i64 n3] 23) := ⟨_, rfl⟩
  have hb5 : Below w4.heap.size w4 w5 := by rw [hw5]; exact (Below.refl _ _).alloc (Nat.le_refl _) _
  have hn5 : w5.heap[w4.heap.size]? = some (.cells #[.int .i64 n0, .int .i64 n1, .int .i64 n2, .int .i64 n3] 23) := by rw [hw5]; exact heap_alloc_new _ _
  have hs4 : w.heap.size < w4.heap.size := (Array.getElem?_eq_some_iff.1 HZ4.out).1
  have HZ5 := Lib.hid ((hb5.block w.heap.size hs4).trans HZ4.out)
  have HB5 := Lib.hid (HB4.out.trans (hb5.mono (by omega)))
  have HN5 := Lib.hid hn5
  have hn5s : w4.heap.size < w5.heap.size := (Array.getElem?_eq_some_iff.1 hn5).1
  clear hb5 hn5
  go_wp2_with fail
  rw [← hw5]
  clear hw5
  refine (HT.out _ (HD.out.below HB5.out)).mono ?_
  rintro e w6 ⟨rfl, hb6⟩
  have hz6 := (hb6.block w.heap.size (by omega)).trans HZ5.out
  have hn6 := (hb6.block w4.heap.size hn5s).trans HN5.out
  have HB6 := Lib.hid (HB5.out.trans (hb6.mono (by omega)))
  have r0 := cell_of_cells hz6 0
  have r1 := cell_of_cells hz6 1
  have r2 := cell_of_cells hz6 2
  have r3 := cell_of_cells hz6 3
  have i0 := cell_of_cells hn6 0
  have i1 := cell_of_cells hn6 1
  have i2 := cell_of_cells hn6 2
  have i3 := cell_of_cells hn6 3
  have f0 := frozen_of_row w6 w.heap.size 0 _ _ hz6
  have f1 := frozen_of_row w6 w.heap.size 1 _ _ hz6
  have f2 := frozen_of_row w6 w.heap.size 2 _ _ hz6
  have f3 := frozen_of_row w6 w.heap.size 3 _ _ hz6
  have HZ6 := Lib.hid hz6
  clear hz6 hn6 hb6
  rcases HCASE.out with ⟨rfl, rfl, rfl, rfl⟩ | ⟨rfl, h2, rfl, rfl⟩ | ⟨h2, rfl, rfl⟩
  · clear HCASE
    have hst := sets_heap0 (vs := [.int .i64 n0, .int .i64 n1, .int .i64 n2, .int .i64 n3]) (us := [.int .i64 0, .int .i64 0, .int .i64 0, .int .i64 0]) HZ6.out rfl
    have hbe := sets_below (Nat.le_refl w.heap.size) [.int .i64 n0, .int .i64 n1, .int .i64 n2, .int .i64 n3] 0 w6 HB6.out
    simp only [sets, Nat.zero_add, Nat.reduceAdd] at hst hbe
    have HST := Lib.hid hst
    have HBE := Lib.hid hbe
    clear hst hbe
    go_wp2
    refine bodyPost_ret (results_cell2 rfl _ _ w.heap.size _ _ _ _ rfl HST.out Tryd.underlying23 rfl (by kernel_rfl)) rfl ?_
    exact ⟨rfl, HBE.out⟩
  · have t0 : (tb == l) = false := by simpa using h2
    clear HCASE h2
    have hst := sets_heap0 (vs := [.int .i64 0, .int .i64 0, .int .i64 0, .int .i64 0]) (us := [.int .i64 0, .int .i64 0, .int .i64 0, .int .i64 0]) HZ6.out rfl
    have hbe := sets_below (Nat.le_refl w.heap.size) [.int .i64 0, .int .i64 0, .int .i64 0, .int .i64 0] 0 w6 HB6.out
    simp only [sets, Nat.zero_add, Nat.reduceAdd] at hst hbe
    have HST := Lib.hid hst
    have HBE := Lib.hid hbe
    clear hst hbe
    go_wp2
    refine bodyPost_ret (results_cell2 rfl _ _ w.heap.size _ _ _ _ rfl HST.out Tryd.underlying23 rfl (by kernel_rfl)) rfl ?_
    exact ⟨rfl, HBE.out⟩
  · have t0 : (z != 0) = true := by simpa using h2
    clear HCASE h2
    have hst := sets_heap0 (vs := [.int .i64 0, .int .i64 0, .int .i64 0, .int .i64 0]) (us := [.int .i64 0, .int .i64 0, .int .i64 0, .int .i64 0]) HZ6.out rfl
    have hbe := sets_below (Nat.le_refl w.heap.size) [.int .i64 0, .int .i64 0, .int .i64 0, .int .i64 0] 0 w6 HB6.out
    simp only [sets, Nat.zero_add, Nat.reduceAdd] at hst hbe
    have HST := Lib.hid hst
    have HBE := Lib.hid hbe
    clear hst hbe
    go_wp2
    refine bodyPost_ret (results_cell2 rfl _ _ w.heap.size _ _ _ _ rfl HST.out Tryd.underlying23 rfl (by kernel_rfl)) rfl ?_
    exact ⟨rfl, HBE.out⟩
end Go.Proofs.YtmdjjlgaflpcfaaDoor
