/-
  MsgPuts.
-/
import Derived.Test.YtmdjjlgaflpcfaaDoorMsgPuts
import Derived.Test.YtmdjjlgaflpcfaaDoorLit
import Derived.StillTailTactics
import Derived.StillTactics
namespace Go.Proofs.YtmdjjlgaflpcfaaDoor
open Go.RowKit Mg

theorem mb_len (i : Mid) (l : List UInt8) : (mb i l).length ≤ 54 := by
  unfold mb
  split
  · rename_i h
    have := (chk_of_chkM h).2.2
    rw [List.length_append, idB_len]
    omega
  · simp

set_option maxRecDepth 100000 in
set_option maxHeartbeats 4000000 in
/-- MsgPuts -/
theorem puts_law (i : Mid) (A : Option Addr) (n c : Nat) (l : List UInt8) (w : World) (hR : Rd w A n c l) (hn : n ≤ 140737488351232) : Calls Tryd.prog 6 #[msgv i (.slice A n c)] w fun e w' => e = .returned (.bool true) ∧ Below w.heap.size w w' := by
  have HP := Lib.hid (fun W A2 c2 h => put_any i A2 n c2 l W h)
  have HQ := Lib.hid (fun W h => rput_any i A n c l W h)
  have HI := Lib.hid (fun W => putid_any i W)
  have HJ := Lib.hid (fun W => rputid_any i W)
  have hq54 := mb_len i l
  have hr6 := pb_len i
  have hln := hR.len
  obtain ⟨z, hz⟩ : ∃ z, z = chkM i n := ⟨_, rfl⟩
  obtain ⟨y, hy⟩ : ∃ y, y = chk i := ⟨_, rfl⟩
  obtain ⟨q, hq⟩ : ∃ q, q = mb i l := ⟨_, rfl⟩
  obtain ⟨r, hr⟩ : ∃ r, r = pb i := ⟨_, rfl⟩
  rw [← hz, ← hq] at HP HQ
  rw [← hy, ← hr] at HI HJ
  rw [← hq] at hq54
  rw [← hr] at hr6
  clear hz hy hq hr
  obtain ⟨io, id, ie, ic⟩ := i
  unfold idv at HI HJ
  unfold msgv at HP HQ ⊢
  go_enter Tryd.func6, Tryd.ntmps6
  go_wp2_with fail
  have hbw := (Below.refl w.heap.size w).alloc (Nat.le_refl _) (.cells #[.int .i64 io, .int .i64 id, .int .i64 ie, .int .i64 ic, .slice A n c] 32)
  obtain ⟨w0, hw0⟩ : ∃ w0, w0 = w.alloc (.cells #[.int .i64 io, .int .i64 id, .int .i64 ie, .int .i64 ic, .slice A n c] 32) := ⟨_, rfl⟩
  have hlt : w.heap.size < w0.heap.size := by rw [hw0]; simp
  have h0 : w0.heap[w.heap.size]? = some (.cells #[.int .i64 io, .int .i64 id, .int .i64 ie, .int .i64 ic, .slice A n c] 32) := by rw [hw0]; exact heap_alloc_new _ _
  rw [← hw0] at hbw ⊢
  clear hw0
  have HR0 := Lib.hid (hR.below hbw)
  have HBW := Lib.hid hbw
  have HH := Lib.hid h0
  clear hR hbw h0
  refine Free.wp_seq4 (I := fun a L w' => CallI w0.heap.size 3 8 (GLit w0.heap.size 5 32 n (bs l) ([.int .i64 io, .int .i64 id, .int .i64 ie, .int .i64 ic] : List Value)) w0 a L w') (Gr := fun _ x y => GrN w0.heap.size 32 x y) (by kernel_rfl) (by kernel_rfl) ⟨(Below.refl _ _).drew, fun h => by cases h⟩ ?_
  refine Free.Seq4.val ?_ (fun _ => GrN.refl _ _ _) (fun a L w v h => h.other (by decide) (by simp)) (fun a w3 L hI hp => ?_) ?_
  rotate_left
  · have e1 := hp.slotV 1 (by kernel_rfl) rfl; simp at e1
    refine ⟨Free.want_none rfl, ?_⟩
    clear hp
    go_simp
    rfl
  refine Free.Seq4.val ?_ (fun _ => GrN.refl _ _ _) (fun a L w v h => h.other (by decide) (by simp)) (fun a w3 L hI hp => ?_) ?_
  rotate_left
  · have e13 := hp.backV 0 0 rfl rfl rfl rfl rfl
    have k0 := (hI.1.cell (p := ⟨w.heap.size, 0, none⟩) hlt).trans (cell_of_cells HH.out 0)
    have k1 := (hI.1.cell (p := ⟨w.heap.size, 1, none⟩) hlt).trans (cell_of_cells HH.out 1)
    have k2 := (hI.1.cell (p := ⟨w.heap.size, 2, none⟩) hlt).trans (cell_of_cells HH.out 2)
    have k3 := (hI.1.cell (p := ⟨w.heap.size, 3, none⟩) hlt).trans (cell_of_cells HH.out 3)
    refine ⟨Free.want_none rfl, ?_⟩
    clear hp
    go_simp
    rfl
  refine Free.Seq4.op (T := TEmp w0.heap.size 5) (fun j hj _ v x y h hg => TEmp.grN (by decide) h hg) (fun a w3 L hI hp => ?_) ?_
  · skip
    have u : Free.upd L 2 8 = false := (upd_ne (by decide)).trans (hp.up 8 40 (by kernel_rfl))
    have hb2 : Below w3.heap.size w3 (w3.alloc (.cells #[] 5)) := (Below.refl _ _).alloc (Nat.le_refl _) _
    refine ⟨Free.want_none rfl, .slice (some ⟨w3.heap.size, 0, none⟩) 0 0, w3.alloc (.cells #[] 5), ?_, ⟨w3.heap.size, #[], rfl, hI.1.size, heap_alloc_new _ _⟩, GrN.below hb2, hI.ahead u (hb2.mono hI.1.size)⟩
    clear hp hI hb2
    go_simp
  refine Free.Seq4.val ?_ (fun _ => GrN.refl _ _ _) (fun a L w v h => h.other (by decide) (by simp)) (fun a w3 L hI hp => ?_) ?_
  rotate_left
  · have e1 := hp.slotV 1 (by kernel_rfl) rfl; simp at e1
    refine ⟨Free.want_none rfl, ?_⟩
    clear hp
    go_simp
    rfl
  refine Free.Seq4.val ?_ (fun _ => GrN.refl _ _ _) (fun a L w v h => h.other (by decide) (by simp)) (fun a w3 L hI hp => ?_) ?_
  rotate_left
  · have e16 := hp.backV 3 0 rfl rfl rfl rfl rfl
    have k0 := (hI.1.cell (p := ⟨w.heap.size, 0, none⟩) hlt).trans (cell_of_cells HH.out 0)
    have k1 := (hI.1.cell (p := ⟨w.heap.size, 1, none⟩) hlt).trans (cell_of_cells HH.out 1)
    have k2 := (hI.1.cell (p := ⟨w.heap.size, 2, none⟩) hlt).trans (cell_of_cells HH.out 2)
    have k3 := (hI.1.cell (p := ⟨w.heap.size, 3, none⟩) hlt).trans (cell_of_cells HH.out 3)
    have k4 := (hI.1.cell (p := ⟨w.heap.size, 4, none⟩) hlt).trans (cell_of_cells HH.out 4)
    refine ⟨Free.want_none rfl, ?_⟩
    clear hp
    go_simp
    rfl
  refine Free.Seq4.op (T := TSl w0.heap.size 5 n (bs l)) (fun j hj _ v x y h hg => TSl.grN (by decide) h hg) (fun a w3 L hI hp => ?_) ?_
  · have e17 := hp.backV 4 0 rfl rfl rfl rfl rfl
    have u : Free.upd L 5 8 = false := (upd_ne (by decide)).trans (hp.up 8 40 (by kernel_rfl))
    obtain ⟨b5, cur5, eE, hb5, hc5⟩ := hp.back 2 2 rfl rfl rfl rfl rfl
    obtain ⟨A9, c9, w9, hrun, h9, hb9⟩ := run_appl w3 elemB _ hc5 hb5 (A := A) (m := n) c ((HR0.out.below hI.1).src) (by omega)
    refine ⟨Free.want_none rfl, .slice A9 n c9, w9, ?_, ⟨A9, c9, rfl, h9⟩, GrN.below hb9, hI.ahead u (hb9.mono hI.1.size)⟩
    exact Free.exec_app (.tmp 15) (.tmp 17) rfl (Free.eval_tmp eE) (Free.eval_tmp e17) hrun
  refine Free.Seq4.op (T := TAgg w0.heap.size 5 n (bs l) ([.int .i64 io, .int .i64 id, .int .i64 ie, .int .i64 ic] : List Value)) (fun j hj _ v x y h hg => TAgg.grN (by decide) h hg) (fun a w3 L hI hp => ?_) ?_
  · have e14 := hp.backV 1 4 rfl rfl rfl rfl rfl
    obtain ⟨A9, c9, eA, h9⟩ := hp.back 5 0 rfl rfl rfl rfl rfl
    refine ⟨Free.want_none rfl, .agg (([.int .i64 io, .int .i64 id, .int .i64 ie, .int .i64 ic] : List Value) ++ [Value.slice A9 n c9]).toArray, w3, ?_, ⟨A9, c9, rfl, h9⟩, GrN.refl _ _ _, hI.other (by decide) (by simp)⟩
    clear hp hI h9
    go_simp
  refine Free.Seq4.op (T := TPtr w0.heap.size 32 5) (fun j hj _ v x y h hg => TPtr.grN h hg) (fun a w3 L hI hp => ?_) ?_
  · skip
    have u : Free.upd L 7 8 = false := (upd_ne (by decide)).trans (hp.up 8 40 (by kernel_rfl))
    have hb2 : Below w3.heap.size w3 (w3.alloc (.cells #[.int .i64 0, .int .i64 0, .int .i64 0, .int .i64 0, .slice none 0 0] 32)) := (Below.refl _ _).alloc (Nat.le_refl _) _
    refine ⟨Free.want_none rfl, .pointer (some ⟨w3.heap.size, 0, none⟩), w3.alloc (.cells #[.int .i64 0, .int .i64 0, .int .i64 0, .int .i64 0, .slice none 0 0] 32), ?_, ⟨w3.heap.size, ([.int .i64 0, .int .i64 0, .int .i64 0, .int .i64 0, .slice none 0 0] : List Value), rfl, hI.1.size, heap_alloc_new _ _, rfl, (nob_int _ (nob_int _ (nob_int _ (nob_int _ (nob_slice _ _ _ nob_nil)))))⟩, GrN.below hb2, hI.ahead u (hb2.mono hI.1.size)⟩
    clear hp hI hb2
    go_simp
  refine Free.Seq4.skip rfl (fun _ => True) (fun _ _ _ _ _ _ _ => trivial) (fun a w3 L hI hp => ?_) ?_
  · skip
    obtain ⟨A2, c2, eG, h2⟩ := hp.back 6 1 rfl rfl rfl rfl rfl
    obtain ⟨q, us, eP, hq, hus, hl, hnb⟩ := hp.back 7 0 rfl rfl rfl rfl rfl
    obtain ⟨u0, u1, u2, u3, u4, rfl⟩ := lit5 hl
    have r0 := cell_of_cells hus 0
    have f0 := frozen_of_row w3 q 0 _ _ hus
    have r1 := cell_of_cells hus 1
    have f1 := frozen_of_row w3 q 1 _ _ hus
    have r2 := cell_of_cells hus 2
    have f2 := frozen_of_row w3 q 2 _ _ hus
    have r3 := cell_of_cells hus 3
    have f3 := frozen_of_row w3 q 3 _ _ hus
    have r4 := cell_of_cells hus 4
    have f4 := frozen_of_row w3 q 4 _ _ hus
    obtain ⟨hst, hgr, hbe⟩ := lit_store (vs := ([.int .i64 io, .int .i64 id, .int .i64 ie, .int .i64 ic] : List Value) ++ [Value.slice A2 n c2]) hq hq hus rfl hnb ((nob_int _ (nob_int _ (nob_int _ (nob_int _ (nob_slice _ _ _ nob_nil)))))) hI.1
    refine ⟨Free.want_none rfl, sets q 0 (([.int .i64 io, .int .i64 id, .int .i64 ie, .int .i64 ic] : List Value) ++ [Value.slice A2 n c2]) w3, ?_, trivial, hgr, ⟨hbe, fun _ => ⟨q, by simpa using eP, hq, A2, c2, hst, h2.grN (by decide) hgr⟩⟩⟩
    clear hp hI h2 hst hbe hgr hus hnb
    simp only [sets, List.cons_append, List.nil_append]
    go_simp
  refine Free.Seq4.done (by simp) (fun wz L hLz => ?_)
  simp only [List.reverse_cons, List.reverse_nil, List.nil_append, List.cons_append, Free.All, Free.eqF, forall_eq]
  skip
  simp only [Free.putL, Act.put, List.setIfInBounds_toArray, List.set_cons_zero, List.set_cons_succ]
  rintro x15 - x18 - x19 - x3 - xS - hIz
  have hbz := hIz.1
  obtain ⟨qb, e3, hqb, A2, c2, hq2, hs2⟩ := hIz.2 (hLz 8 (by decide))
  have hv3 : x3 = .pointer (some ⟨qb, 0, none⟩) := e3
  clear hIz hLz e3
  subst hv3
  have hqz : qb < wz.heap.size := (Array.getElem?_eq_some_iff.1 hq2).1
  have hq2' : wz.heap[qb]? = some (.cells #[.int .i64 io, .int .i64 id, .int .i64 ie, .int .i64 ic, .slice A2 n c2] 32 (0, 0)) := hq2
  have r0 := cell_of_cells hq2' 0
  have r1 := cell_of_cells hq2' 1
  have r2 := cell_of_cells hq2' 2
  have r3 := cell_of_cells hq2' 3
  have r4 := cell_of_cells hq2' 4
  have HQ2 := Lib.hid hq2'
  have HS2 := Lib.hid hs2
  have HBZ := Lib.hid (HBW.out.trans (hbz.mono HBW.out.size))
  have hB0 : w0.heap.size ≤ wz.heap.size := hbz.size
  have HR2 := Lib.hid (HR0.out.below hbz)
  have HH2 := Lib.hid ((hbz.block w.heap.size hlt).trans HH.out)
  clear hq2 hq2' hs2 hbz
  go_wp2_with fail
  refine (HP.out _ A2 c2 (HS2.out.rd (by omega))).mono ?_
  rintro e w3 ⟨A3, m3, k3, rfl, rfl, ho3, hb3⟩
  have hrd3 := ho3.rd rfl (by omega)
  have hA3 : ∀ b off, A3 = some ⟨b, off, none⟩ → wz.heap.size ≤ b := fun b off e => by subst e; exact (World.ownsRow.lt ho3 b rfl).1
  have hg2 : ∀ g off, A2 = some ⟨g, off, none⟩ → w0.heap.size ≤ g ∧ g < wz.heap.size ∧ g ≠ qb := fun g off e => by
    subst e
    refine ⟨(HS2.out.lt g rfl).1, (HS2.out.lt g rfl).2, ?_⟩
    rintro rfl
    obtain ⟨cur, hc⟩ := HS2.out.type g rfl
    rw [HQ2.out] at hc
    injection hc with hc
    injection hc with _ hc
    exact absurd hc (by decide)
  have hs3 : Sl w3 w0.heap.size 5 (.slice A2 n c2) n (bs l) := HS2.out.kept fun k hk => hb3.block k (HS2.out.lt k hk).2
  have hq3 := (hb3.block qb hqz).trans HQ2.out
  have hb3' := HBZ.out.trans (hb3.mono HBZ.out.size)
  have hh3 := (hb3.block w.heap.size (by omega)).trans HH2.out
  have hr3 := HR2.out.below hb3
  have HG2 := Lib.hid hg2
  have HA3 := Lib.hid hA3
  have hsz3 := hb3.size
  clear hb3 hA3 hg2 ho3 r0 r1 r2 r3 r4
  have HLN := Lib.hid hln
  clear hln
  go_wp2_with fail
  go_loopw [6] (fun i wr => ∃ k : Nat, k ≤ n ∧ i = .int .i64 k ∧ (∃ x : List UInt8, x.length = n ∧ Sl wr w0.heap.size 5 (.slice A2 n c2) n (bs x)) ∧ wr.heap[qb]? = some (.cells #[.int .i64 io, .int .i64 id, .int .i64 ie, .int .i64 ic, .slice A2 n c2] 32 (0, 0)) ∧ wr.heap[w.heap.size]? = some (.cells #[.int .i64 io, .int .i64 id, .int .i64 ie, .int .i64 ic, .slice A n c] 32 (0, 0)) ∧ Rd wr A3 q.length k3 q ∧ Rd wr A n c l ∧ Below w.heap.size w wr ∧ w0.heap.size ≤ wr.heap.size) (fun i _ => n - (intOf i).toNat)
  case atStart => exact ⟨0, Nat.zero_le _, rfl, ⟨l, HLN.out, hs3⟩, hq3, hh3, hrd3, hr3, hb3', by omega⟩
  case round =>
    obtain ⟨k, hk, rfl, ⟨x, hx, hox⟩, hqr, hhr, h3, hR, hb, hsz⟩ := hrel
    have kq4 := cell_of_cells hqr 4
    by_cases hlt : k < n
    · obtain ⟨g, off, rfl, hg, hgl, hcells⟩ := hox.cell (by omega)
      obtain ⟨g1, g2, g3⟩ := HG2.out g off rfl
      have hkx : k < x.length := by omega
      have hcell := hcells k (bv (x.getD k 0)) (by simp [bs, hkx])
      have hfree := hox.free (off + k)
      have hst := hox.store k hlt (bv (255 - x.getD k 0))
      rw [show (bs x).set k (bv (255 - x.getD k 0)) = bs (x.set k (255 - x.getD k 0)) by simp [bs, List.map_set]] at hst
      obtain ⟨y, hy⟩ : ∃ y, y = x.getD k 0 := ⟨_, rfl⟩
      rw [← hy] at hcell hst
      have hq' : (wr.setCell ⟨g, off + k, none⟩ (bv (255 - y))).heap[qb]? = _ := (heap_setCell_other _ _ _ _ (fun e => g3 e.symm)).trans hqr
      have hh' : (wr.setCell ⟨g, off + k, none⟩ (bv (255 - y))).heap[w.heap.size]? = _ := (heap_setCell_other _ _ _ _ (fun e => by have e' : w.heap.size = g := e; omega)).trans hhr
      have h3' : Rd (wr.setCell ⟨g, off + k, none⟩ (bv (255 - y))) A3 q.length k3 q := h3.keep (by simp) (fun b o e _ => heap_setCell_other _ _ _ _ (by have := HA3.out b o e; show b ≠ g; omega))
      have hR' : Rd (wr.setCell ⟨g, off + k, none⟩ (bv (255 - y))) A n c l := hR.keep (by simp) (fun b o e _ => heap_setCell_other _ _ _ _ (by
        obtain ⟨b1, o1, e1, h1, _⟩ := HR0.out.at_ (by omega)
        rw [e1] at e
        injection e with e
        injection e with e
        show b ≠ g
        omega))
      have H1 := Lib.hid hst
      have H2 := Lib.hid hq'
      have H3 := Lib.hid hh'
      have H4 := Lib.hid h3'
      have H5 := Lib.hid hR'
      have HX := Lib.hid hx
      have hnc : k < n := hlt
      have hb0 : (0 : Int) ≤ (k : Int) := by omega
      have hb1 : (k : Int) < (n : Int) := by omega
      clear hst hq' hh' h3' hR' hx hy hqr hhr h3 hR hox hcells
      go_wp2_with fail
      go_still_tail 10, (by kernel_rfl)
      change wpList _ _ _ _ _ wr.drew
      have hfree' : wr.drew.frozen? ⟨g, off + k, none⟩ = false := hfree
      have hcell' : wr.drew.cell? ⟨g, off + k, none⟩ = some (bv y) := hcell
      go_wp2_with fail
      go_roundw
      case rel =>
        rw [inv_byte]
        exact ⟨k + 1, by omega, by go_num, ⟨_, by rw [List.length_set]; exact HX.out, H1.out⟩, H2.out, H3.out, H4.out.stays (Stays.drew _), H5.out.stays (Stays.drew _), (hb.setCell (by show w.heap.size ≤ g; omega) _).drew, by simp; omega⟩
      case measure => simp [intOf]; omega
    · obtain rfl : n = k := by omega
      clear hox hqr
      have b0 := cell_of_cells (hhr) 0
      have b1 := cell_of_cells (hhr) 1
      have b2 := cell_of_cells (hhr) 2
      have b3 := cell_of_cells (hhr) 3
      have b4 := cell_of_cells (hhr) 4
      have H3 := Lib.hid h3
      have HB := Lib.hid hb
      have HW := Lib.hid hhr
      have hwz : w.heap.size < wr.heap.size := by omega
      have HR := Lib.hid hR
      clear h3 hb hhr hR
      go_wp2_with fail
      refine (HQ.out _ HR.out).mono ?_
      rintro e w4 ⟨A4, m4, k4, rfl, rfl, ho4, hb4⟩
      have HH4 := Lib.hid ((hb4.block w.heap.size hwz).trans HW.out)
      have HR3 := Lib.hid (H3.out.below hb4)
      have HR4 := Lib.hid (ho4.rd rfl (by omega))
      have HB4 := Lib.hid (HB.out.trans (hb4.mono HB.out.size))
      have hwz4 : w.heap.size < w4.heap.size := Nat.lt_of_lt_of_le hwz hb4.size
      clear hb4 ho4 kq4 b0 b1 b2 b3 b4
      have b0 := cell_of_cells (HH4.out) 0
      have b1 := cell_of_cells (HH4.out) 1
      have b2 := cell_of_cells (HH4.out) 2
      have b3 := cell_of_cells (HH4.out) 3
      have b4 := cell_of_cells (HH4.out) 4
      go_wp2_with fail
      refine (HI.out _).mono ?_
      rintro e w5 ⟨A5, m5, k5, rfl, rfl, ho5, hb5⟩
      have HH5 := Lib.hid ((hb5.block w.heap.size hwz4).trans HH4.out)
      have HR3 := Lib.hid (HR3.out.below hb5)
      have HR4 := Lib.hid (HR4.out.below hb5)
      have HR5 := Lib.hid (ho5.rd rfl (by omega))
      have HB5 := Lib.hid (HB4.out.trans (hb5.mono HB4.out.size))
      clear hb5 ho5 b0 b1 b2 b3 b4
      have b0 := cell_of_cells (HH5.out) 0
      have b1 := cell_of_cells (HH5.out) 1
      have b2 := cell_of_cells (HH5.out) 2
      have b3 := cell_of_cells (HH5.out) 3
      have b4 := cell_of_cells (HH5.out) 4
      go_wp2_with fail
      refine (HJ.out _).mono ?_
      rintro e w6 ⟨A6, m6, k6, rfl, rfl, ho6, hb6⟩
      have c3 := (HR3.out.below hb6).string (P := Tryd.prog) 25 9 5 Tryd.underlying25 Tryd.underlying5 Tryd.underlying9
      have c4 := (HR4.out.below hb6).string (P := Tryd.prog) 25 9 5 Tryd.underlying25 Tryd.underlying5 Tryd.underlying9
      have c5 := (HR5.out.below hb6).string (P := Tryd.prog) 25 9 5 Tryd.underlying25 Tryd.underlying5 Tryd.underlying9
      have c6 := (ho6.rd rfl (by omega)).string (P := Tryd.prog) 25 9 5 Tryd.underlying25 Tryd.underlying5 Tryd.underlying9
      have HB6 := Lib.hid (HB5.out.trans (hb6.mono HB5.out.size))
      clear hb6 ho6 b0 b1 b2 b3 b4
      go_wp2_with fail
      refine (awake_any _).mono ?_
      rintro e w7 ⟨rfl, hb7⟩
      go_wp2
      go_ret
      exact ⟨rfl, HB6.out.trans (hb7.mono HB6.out.size)⟩
end Go.Proofs.YtmdjjlgaflpcfaaDoor
