/-
  MsgTexts.
-/
import Derived.Test.YtmdjjlgaflpcfaaDoorMsgNums
namespace Go.Proofs.YtmdjjlgaflpcfaaDoor
open Go.RowKit Mg

set_option maxRecDepth 100000 in
set_option maxHeartbeats 2000000 in
/-- MsgTexts -/
theorem texts_law (i : Mid) (s : ByteArray) (w : World) (hs : s.size ≤ 1048576) (hd : Door w) (he : Errs w) : Calls Tryd.prog 8 #[idv i, .string s] w fun e w' => e = .returned (.bool true) ∧ Below w.heap.size w w' := by
  obtain ⟨l, rfl⟩ : ∃ l : List UInt8, s = ⟨l.toArray⟩ := ⟨s.data.toList, by cases s; simp⟩
  have hl : l.length ≤ 1048576 := by simpa [ByteArray.size] using hs
  have HT := Lib.hid (fun W h => text_any i W h)
  have HR := Lib.hid (fun W => rtext_any i W)
  have HP := Lib.hid (fun W h k => parse_any l W (by omega) h k)
  have hq := fun W => rparse_any l W hl
  rw [← (par_same l).1, ← (par_same l).2] at hq
  have HQ := Lib.hid hq
  obtain ⟨tb, htb⟩ : ∃ P, P = tB i := ⟨_, rfl⟩
  obtain ⟨z, hz⟩ : ∃ P, P = chk i := ⟨_, rfl⟩
  obtain ⟨P, hP⟩ : ∃ P, P = parI l := ⟨_, rfl⟩
  obtain ⟨F, hF⟩ : ∃ P, P = parE l := ⟨_, rfl⟩
  rw [← htb, ← hz] at HT HR
  rw [← hP, ← hF] at HP HQ
  have HD := Lib.hid hd
  have HE := Lib.hid he
  clear htb hz hP hF hq hd he hs
  obtain ⟨io, id, ie, ic⟩ := i
  obtain ⟨po, pd, pe, pc⟩ := P
  unfold idv at HT HR HP HQ ⊢
  simp only at HT HR HP HQ ⊢
  go_enter Tryd.func8, Tryd.ntmps8
  have hb0 := (Below.refl w.heap.size w).alloc (Nat.le_refl _) (.cells #[.int .i64 io, .int .i64 id, .int .i64 ie, .int .i64 ic] 23)
  have hz0 := heap_alloc_new w (.cells #[.int .i64 io, .int .i64 id, .int .i64 ie, .int .i64 ic] 23)
  have HB0 := Lib.hid hb0
  have HZ0 := Lib.hid hz0
  clear hb0 hz0
  go_wp2_with fail
  refine (HT.out _ (HD.out.below HB0.out)).mono ?_
  rintro e w1 ⟨rfl, hb1⟩
  have hz1 := (hb1.block w.heap.size (by simp)).trans HZ0.out
  have HB1 := Lib.hid (HB0.out.trans (hb1.mono HB0.out.size))
  have k0 := cell_of_cells hz1 0
  have k1 := cell_of_cells hz1 1
  have k2 := cell_of_cells hz1 2
  have k3 := cell_of_cells hz1 3
  clear hb1 hz1
  go_wp2_with fail
  refine (HR.out _).mono ?_
  rintro e w2 ⟨rfl, hb2⟩
  have HB2 := Lib.hid (HB1.out.trans (hb2.mono HB1.out.size))
  clear hb2 k0 k1 k2 k3
  go_wp2_with fail
  refine (HP.out _ (HD.out.below HB2.out) (HE.out.below HB2.out)).mono ?_
  rintro e w3 ⟨rfl, hb3⟩
  have HB3 := Lib.hid (HB2.out.trans (hb3.mono HB2.out.size))
  clear hb3
  obtain ⟨w4, hw4⟩ : ∃ w4, w4 = w3.alloc (.cells #[.int .i64 po, .int .i64 pd, .int .i64 pe, .int .i64 pc] 23) := ⟨_, rfl⟩
  have hb4 : Below w3.heap.size w3 w4 := by rw [hw4]; exact (Below.refl _ _).alloc (Nat.le_refl _) _
  have hn4 : w4.heap[w3.heap.size]? = some (.cells #[.int .i64 po, .int .i64 pd, .int .i64 pe, .int .i64 pc] 23) := by rw [hw4]; exact heap_alloc_new _ _
  have hn4s := (Array.getElem?_eq_some_iff.1 hn4).1
  have HN4 := Lib.hid hn4
  have HB4 := Lib.hid (HB3.out.trans (hb4.mono HB3.out.size))
  clear hb4 hn4
  go_wp2_with fail
  rw [← hw4]
  clear hw4
  refine (HQ.out _).mono ?_
  rintro e w5 ⟨rfl, hb5⟩
  have hn5 := (hb5.block w3.heap.size hn4s).trans HN4.out
  have HB5 := Lib.hid (HB4.out.trans (hb5.mono HB4.out.size))
  have hn5s := (Array.getElem?_eq_some_iff.1 hn5).1
  have k0 := cell_of_cells hn5 0
  have k1 := cell_of_cells hn5 1
  have k2 := cell_of_cells hn5 2
  have k3 := cell_of_cells hn5 3
  clear hb5 hn5
  go_wp2_with fail
  refine (awake_any _).mono ?_
  rintro e w6 ⟨rfl, hb6⟩
  have HB6 := Lib.hid ((HB5.out.alloc HB5.out.size (.cells #[.int .i64 po, .int .i64 pd, .int .i64 pe, .int .i64 pc] 23)).trans (hb6.mono (by have := HB5.out.size; simp; omega)))
  clear hb6
  go_wp2
  go_ret
  exact ⟨rfl, HB6.out⟩
end Go.Proofs.YtmdjjlgaflpcfaaDoor
