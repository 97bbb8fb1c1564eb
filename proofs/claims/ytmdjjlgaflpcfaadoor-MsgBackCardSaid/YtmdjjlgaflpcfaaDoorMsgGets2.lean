/-
  MsgGets.
-/
import Derived.Test.YtmdjjlgaflpcfaaDoorMsgGet3
namespace Go.Proofs.YtmdjjlgaflpcfaaDoor
open Go.RowKit Mg

theorem getD_len (l : List UInt8) : (getD' l).length ≤ l.length := by
  unfold getD'
  split <;> simp
set_option maxRecDepth 100000 in
set_option maxHeartbeats 4000000 in
/-- MsgGets -/
theorem gets_law (A : Option Addr) (n c : Nat) (l : List UInt8) (w : World) (hR : Rd w A n c l) (hn : n ≤ 140737488351232) : Calls Tryd.prog 7 #[.slice A n c] w fun e w' => e = .returned (.bool true) ∧ Below w.heap.size w w' := by
  have HG := Lib.hid (fun W A2 c2 h => get_any A2 n c2 l W h hn)
  have HGI := Lib.hid (fun W A2 c2 h => getid_any A2 n c2 l W h)
  have HR := Lib.hid (fun W h => rget_any A n c l W h)
  have HRI := Lib.hid (fun W h => rgetid_any A n c l W h)
  have hlen := hR.len
  have hdl := getD_len l
  unfold GetP at HG HR
  obtain ⟨d, hd⟩ : ∃ d, d = getD' l := ⟨_, rfl⟩
  obtain ⟨M, hM⟩ : ∃ M, M = getM l := ⟨_, rfl⟩
  obtain ⟨E, hE⟩ : ∃ E, E = getE l := ⟨_, rfl⟩
  obtain ⟨I, hI⟩ : ∃ I, I = getI l := ⟨_, rfl⟩
  obtain ⟨F, hF⟩ : ∃ F, F = getIE l := ⟨_, rfl⟩
  rw [← hd, ← hM, ← hE] at HG HR
  rw [← hI, ← hF] at HGI HRI
  rw [← hd, hlen] at hdl
  have HS := Lib.hid (fun A B m k c1 c2 W hA hB => rsame_any M M A B m k c1 c2 d d W hA hB)
  simp only [decide_true, Bool.true_and, BEq.rfl] at HS
  clear hd hM hE hI hF
  obtain ⟨mo, md, me, mc⟩ := M
  obtain ⟨io, id, ie, ic⟩ := I
  unfold msgv at HG HR HS
  unfold idv at HGI HRI
  have HLEN := Lib.hid hlen
  have HR0 := Lib.hid hR
  clear hlen
  go_enter Tryd.func7, Tryd.ntmps7
  go_wp2_with ((with_reducible show wpList _ _ _ (⟨some 15, _, _, _, _, _⟩ :: _) _ _); refine wpList_app _ rfl elemB (.tmp 13) (.tmp 14) rfl rfl (own_empty _ w.heap.size _ _ 1 (by simp) (by omega)) rfl ((HR0.out.stays (Stays.alloc w _)).src) n (by omega) (by omega) (by simp) ?_; intro A1 c1 w1 hown1 hg1 hat1)
  have hb1 := below_app' ((Below.refl _ _).alloc (Nat.le_refl _) _) (own_empty _ w.heap.size _ _ 1 (by simp) (by omega)) hg1 (Nat.le_refl _) (by simp)
  have ho1 := OwnB.of hown1 l (by simp)
  clear hown1 hg1 hat1
  refine (HG.out _ A1 c1 (ho1.rd HLEN.out (by omega))).mono ?_
  rintro e w2 ⟨A2, m2, c2, rfl, rfl, hs2, hb2⟩
  have ho2 := own_below ho1 hb2
  have HB2 := Lib.hid (hb1.trans (hb2.mono hb1.size))
  have hA2 : ∀ b off, A2 = some ⟨b, off, none⟩ → w1.heap.size ≤ b := fun b off e => by subst e; exact (hs2.lt b rfl).1
  have hG1 : ∀ g, A1 = some ⟨g, 0, none⟩ → g < w1.heap.size := fun g hg => by
    subst hg
    exact (World.ownsRow.lt ho1 g rfl).2
  have hd2 := hs2.rd (by omega)
  have hs12 := hb2.size
  have hsb := hb1.size
  clear hb1 hb2 ho1 hs2
  go_wp2_with fail
  have hbm : Below w2.heap.size w2 (w2.alloc (.cells #[.int .i64 mo, .int .i64 md, .int .i64 me, .int .i64 mc, .slice A2 d.length c2] 32)) := (Below.refl _ _).alloc (Nat.le_refl _) _
  have hm2 := heap_alloc_new w2 (.cells #[.int .i64 mo, .int .i64 md, .int .i64 me, .int .i64 mc, .slice A2 d.length c2] 32)
  obtain ⟨w2', hw2⟩ : ∃ w2', w2' = w2.alloc (.cells #[.int .i64 mo, .int .i64 md, .int .i64 me, .int .i64 mc, .slice A2 d.length c2] 32) := ⟨_, rfl⟩
  rw [← hw2] at hbm hm2 ⊢
  clear hw2
  have ho2' := own_below ho2 hbm
  refine (HGI.out _ A1 c1 (OwnB.rd ho2' HLEN.out (by omega))).mono ?_
  rintro e w3 ⟨rfl, hb3⟩
  have hbi : Below w3.heap.size w3 (w3.alloc (.cells #[.int .i64 io, .int .i64 id, .int .i64 ie, .int .i64 ic] 23)) := (Below.refl _ _).alloc (Nat.le_refl _) _
  have hi3 := heap_alloc_new w3 (.cells #[.int .i64 io, .int .i64 id, .int .i64 ie, .int .i64 ic] 23)
  have hsm := (Array.getElem?_eq_some_iff.1 hm2).1
  have hs3 := hb3.size
  go_wp2_with fail
  obtain ⟨w3', hw3⟩ : ∃ w3', w3' = w3.alloc (.cells #[.int .i64 io, .int .i64 id, .int .i64 ie, .int .i64 ic] 23) := ⟨_, rfl⟩
  rw [← hw3] at hbi hi3 ⊢
  clear hw3
  have hb33 : Below w2'.heap.size w2' w3' := hb3.trans (hbi.mono hs3)
  have ho3 := own_below ho2' hb33
  have hm3 := (hb33.block w2.heap.size hsm).trans hm2
  have hd3 := (hd2.below hbm).below hb33
  have hB3 := (HB2.out.trans (hbm.mono HB2.out.size)).trans (hb33.mono (by have := HB2.out.size; omega))
  have hsi := (Array.getElem?_eq_some_iff.1 hi3).1
  have HG1 := Lib.hid hG1
  have HA2 := Lib.hid hA2
  have hr3 := HR0.out.below hB3
  clear hbm hm2 ho2 ho2' hb3 hbi hb33 hd2 hG1 hA2
  go_loopw [8] (fun i wr => ∃ k : Nat, k ≤ n ∧ i = .int .i64 k ∧ (∃ x : List UInt8, x.length = n ∧ OwnB wr w.heap.size 5 (.slice A1 n c1) x) ∧ wr.heap[w2.heap.size]? = some (.cells #[.int .i64 mo, .int .i64 md, .int .i64 me, .int .i64 mc, .slice A2 d.length c2] 32 (0, 0)) ∧ wr.heap[w3.heap.size]? = some (.cells #[.int .i64 io, .int .i64 id, .int .i64 ie, .int .i64 ic] 23 (0, 0)) ∧ Rd wr A2 d.length c2 d ∧ Rd wr A n c l ∧ Below w.heap.size w wr) (fun i _ => n - (intOf i).toNat)
  case atStart => exact ⟨0, Nat.zero_le _, rfl, ⟨l, HLEN.out, ho3⟩, hm3, hi3, hd3, hr3, hB3⟩
  case round =>
    obtain ⟨k, hk, rfl, ⟨x, hx, hox⟩, hmr, hir, h3, hR, hb⟩ := hrel
    by_cases hlt : k < n
    · obtain ⟨g, rfl, hg, hgl⟩ := hox.at_ hx (by omega)
      have hgw := HG1.out g rfl
      have hcell := hox.cell hx k hlt
      have hfree := hox.free hx k
      have hst := hox.store hx k (255 - x.getD k 0)
      obtain ⟨y, hy⟩ : ∃ y, y = x.getD k 0 := ⟨_, rfl⟩
      rw [← hy] at hcell hst
      have hm' : (wr.setCell ⟨g, k, none⟩ (bv (255 - y))).heap[w2.heap.size]? = _ := (heap_setCell_other _ _ _ _ (fun e => by have e' : w2.heap.size = g := e; omega)).trans hmr
      have hi' : (wr.setCell ⟨g, k, none⟩ (bv (255 - y))).heap[w3.heap.size]? = _ := (heap_setCell_other _ _ _ _ (fun e => by have e' : w3.heap.size = g := e; omega)).trans hir
      have h3' : Rd (wr.setCell ⟨g, k, none⟩ (bv (255 - y))) A2 d.length c2 d := h3.keep (by simp) (fun b off e _ => heap_setCell_other _ _ _ _ (by have := HA2.out b off e; show b ≠ g; omega))
      have hR' : Rd (wr.setCell ⟨g, k, none⟩ (bv (255 - y))) A n c l := hR.keep (by simp) (fun b o e _ => heap_setCell_other _ _ _ _ (by
        obtain ⟨b1, o1, e1, h1, _⟩ := HR0.out.at_ (by omega)
        rw [e1] at e
        injection e with e
        injection e with e
        show b ≠ g
        omega))
      have H1 := Lib.hid hst
      have H2 := Lib.hid hm'
      have H3 := Lib.hid hi'
      have H4 := Lib.hid h3'
      have H5 := Lib.hid hR'
      have HX := Lib.hid hx
      clear hst hm' hi' h3' hR' hx hy hmr hir h3 hR hox
      go_wp2_with fail
      go_roundw
      case rel =>
        rw [inv_byte]
        exact ⟨k + 1, by omega, by go_num, ⟨_, by rw [List.length_set]; exact HX.out, H1.out⟩, H2.out, H3.out, H4.out, H5.out, hb.setCell hg _⟩
      case measure => simp [intOf]; omega
    · obtain rfl : n = k := by omega
      have HM4 := Lib.hid hmr
      have HI4 := Lib.hid hir
      have HD4 := Lib.hid h3
      have HR4 := Lib.hid hR
      have HB4 := Lib.hid hb
      have hm4 := (Array.getElem?_eq_some_iff.1 hmr).1
      have hi4 := (Array.getElem?_eq_some_iff.1 hir).1
      clear hmr hir h3 hR hb hox
      go_wp2_with fail
      refine (HR.out _ HR4.out).mono ?_
      rintro e w5 ⟨A5, m5, c5, rfl, rfl, hs5, hb5⟩
      have hd5 := hs5.rd (by omega)
      go_wp2_with fail
      obtain ⟨w5', hw5⟩ : ∃ w5', w5' = w5.alloc (.cells #[.int .i64 mo, .int .i64 md, .int .i64 me, .int .i64 mc, .slice A5 d.length c5] 32) := ⟨_, rfl⟩
      have hb5' : Below w5.heap.size w5 w5' := by rw [hw5]; exact (Below.refl _ _).alloc (Nat.le_refl _) _
      have hm5 : w5'.heap[w5.heap.size]? = some (.cells #[.int .i64 mo, .int .i64 md, .int .i64 me, .int .i64 mc, .slice A5 d.length c5] 32) := by rw [hw5]; exact heap_alloc_new _ _
      rw [← hw5]
      clear hw5
      have hb55 := hb5.trans (hb5'.mono hb5.size)
      refine (HRI.out _ (HR4.out.below hb55)).mono ?_
      rintro e w6 ⟨rfl, hb6⟩
      have hs5m := (Array.getElem?_eq_some_iff.1 hm5).1
      have hs6 := hb6.size
      have hb46 := hb55.trans (hb6.mono hb55.size)
      have hM1 := (hb46.block w2.heap.size hm4).trans HM4.out
      have hI1 := (hb46.block w3.heap.size hi4).trans HI4.out
      have hM2 := (hb6.block w5.heap.size hs5m).trans hm5
      have hl1 := (Array.getElem?_eq_some_iff.1 hM1).1
      have hl2 := (Array.getElem?_eq_some_iff.1 hI1).1
      have hl3 := (Array.getElem?_eq_some_iff.1 hM2).1
      have a0 := cell_of_cells hM1 0
      have a1 := cell_of_cells hM1 1
      have a2 := cell_of_cells hM1 2
      have a3 := cell_of_cells hM1 3
      have a4 := cell_of_cells hM1 4
      have b0 := cell_of_cells hM2 0
      have b1 := cell_of_cells hM2 1
      have b2 := cell_of_cells hM2 2
      have b3 := cell_of_cells hM2 3
      have b4 := cell_of_cells hM2 4
      have HI6 := Lib.hid hI1
      have hD1 := HD4.out.below hb46
      have hD2 := (hd5.below hb5').below hb6
      have HBF := Lib.hid (HB4.out.trans (hb46.mono HB4.out.size))
      obtain ⟨w6', hw6⟩ : ∃ w6', w6' = w6.alloc (.cells #[.int .i64 io, .int .i64 id, .int .i64 ie, .int .i64 ic] 23) := ⟨_, rfl⟩
      have hb6' : Below w6.heap.size w6 w6' := by rw [hw6]; exact (Below.refl _ _).alloc (Nat.le_refl _) _
      have hi6 : w6'.heap[w6.heap.size]? = some (.cells #[.int .i64 io, .int .i64 id, .int .i64 ie, .int .i64 ic] 23) := by rw [hw6]; exact heap_alloc_new _ _
      have HD1 := Lib.hid (hD1.below hb6')
      have HD2 := Lib.hid (hD2.below hb6')
      have HI7 := Lib.hid ((hb6'.block w3.heap.size hl2).trans hI1)
      have HI8 := Lib.hid hi6
      have HB7 := Lib.hid (HBF.out.trans (hb6'.mono (by have := HBF.out.size; omega)))
      have hi6s := (Array.getElem?_eq_some_iff.1 hi6).1
      have hi3s := (Array.getElem?_eq_some_iff.1 HI7.out).1
      clear hb46 hM1 hM2 hI1 hD1 hD2 hi6 hb6' hb6 hb5 hb5' hb55 hd5 hm5 hs5
      go_wp2_with fail
      rw [← hw6]
      clear hw6 a0 a1 a2 a3 a4 b0 b1 b2 b3 b4
      refine (HS.out _ _ _ _ _ _ _ HD1.out HD2.out).mono ?_
      rintro e w7 ⟨rfl, hb7⟩
      have hI7 := (hb7.block w3.heap.size hi3s).trans HI7.out
      have hI8 := (hb7.block w6.heap.size hi6s).trans HI8.out
      have a0 := cell_of_cells hI7 0
      have a1 := cell_of_cells hI7 1
      have a2 := cell_of_cells hI7 2
      have a3 := cell_of_cells hI7 3
      have b0 := cell_of_cells hI8 0
      have b1 := cell_of_cells hI8 1
      have b2 := cell_of_cells hI8 2
      have b3 := cell_of_cells hI8 3
      have HB8 := Lib.hid (HB7.out.trans (hb7.mono HB7.out.size))
      clear hI7 hI8 hb7
      go_wp2_with fail
      refine (awake_any _).mono ?_
      rintro e w8 ⟨rfl, hb8⟩
      go_wp2
      go_ret
      exact ⟨rfl, HB8.out.trans (hb8.mono HB8.out.size)⟩
end Go.Proofs.YtmdjjlgaflpcfaaDoor
