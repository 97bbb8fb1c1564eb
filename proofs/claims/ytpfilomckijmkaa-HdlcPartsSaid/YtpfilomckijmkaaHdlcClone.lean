/-
  A DECODER's CLONE; A NIL DECODER.
-/
import Derived.Test.YtpfilomckijmkaaHdlcFeed
import Derived.WalkSpells
namespace Go.Proofs.Ytpfilomckijmkaa
open Go.RowKit

def TE14 (N : Nat) (d : Hdl.Dec) (v : Value) (w' : World) : Prop := ∃ A c, v = .agg (dcs d (.slice A d.inn.length c) (.slice none 0 0)) ∧ Sl w' N 5 (.slice A d.inn.length c) d.inn.length (bs d.inn)
def TE15 (N : Nat) (d : Hdl.Dec) (v : Value) (w' : World) : Prop := ∃ q A c, v = .pointer (some ⟨q, 0, none⟩) ∧ N ≤ q ∧ Dc w' N 0 q d (.slice A d.inn.length c) (.slice none 0 0) [] []
section
variable {N n : Nat} {l : List UInt8} {d : Hdl.Dec} {v : Value} {x y : World}
theorem TE5.low (h : TE5 N v x) (hb : Below x.heap.size x y) : TE5 N v y := by
  obtain ⟨b, cur, rfl, h1, h2⟩ := h
  exact ⟨b, cur, rfl, h1, (hb.block b (Array.getElem?_eq_some_iff.1 h2).1).trans h2⟩
theorem TE11.low (h : TE11 N n l v x) (hb : Below x.heap.size x y) : TE11 N n l v y := by
  obtain ⟨A, c, rfl, h1⟩ := h
  exact ⟨A, c, rfl, h1.kept fun k e => hb.block k (h1.lt k e).2⟩
theorem TE14.low (h : TE14 N d v x) (hb : Below x.heap.size x y) : TE14 N d v y := by
  obtain ⟨A, c, rfl, h1⟩ := h
  exact ⟨A, c, rfl, h1.kept fun k e => hb.block k (h1.lt k e).2⟩
theorem TE15.low (h : TE15 N d v x) (hb : Below x.heap.size x y) : TE15 N d v y := by
  obtain ⟨q, A, c, rfl, h1, h2⟩ := h
  exact ⟨q, A, c, rfl, h1, h2.below hb⟩
end

set_option maxHeartbeats 1000000 in
theorem dclone_any (w : World) {B C g : Nat} {d : Hdl.Dec} {I T : Value} {xs : List Value} {told : List (List UInt8)} (h : Dc w B C g d I T xs told) (hlen : d.inn.length ≤ 260) :
    Calls Try.prog 19 #[.pointer (some ⟨g, 0, none⟩)] w fun e w' => ∃ q A c, e = .returned (.pointer (some ⟨q, 0, none⟩)) ∧ w.heap.size ≤ q ∧ Dc w' w.heap.size 0 q d (.slice A d.inn.length c) (.slice none 0 0) [] [] ∧ Below w.heap.size w w' := by
  obtain ⟨Ai, ci, rfl, _⟩ := h.hi.form
  have HD := Lib.hid h
  have HRD := Lib.hid (h.hi.rd (by omega))
  clear h
  go_enter Try.func19, Try.ntmps19
  go_wp2
  refine Free.wp_seq (I := fun w' => Below w.heap.size w w') (Gr := fun w1 w2 => Below w1.heap.size w1 w2) (by kernel_rfl) (by kernel_rfl) (Below.refl _ _).drew ?_
  refine Free.Seq.val ?_ (fun _ => Below.refl _ _) (fun a w1 hI hp => ?_) ?_
  rotate_left
  · have e0 := hp.slotV 0 (by kernel_rfl) rfl; simp at e0
    refine ⟨Free.want_none rfl, ?_⟩
    clear hp
    go_simp
    rfl
  refine Free.Seq.val ?_ (fun _ => Below.refl _ _) (fun a w1 hI hp => ?_) ?_
  rotate_left
  · have e5 := hp.backV 0 0 rfl rfl rfl rfl rfl
    refine ⟨Free.want_none rfl, ?_⟩
    clear hp
    go_simp
    rfl
  refine Free.Seq.val ?_ (fun _ => Below.refl _ _) (fun a w1 hI hp => ?_) ?_
  rotate_left
  · have e6 := hp.backV 1 0 rfl rfl rfl rfl rfl
    refine ⟨Free.want_none rfl, ?_⟩
    clear hp
    go_simp
    rfl
  refine Free.Seq.val ?_ (fun _ => Below.refl _ _) (fun a w1 hI hp => ?_) ?_
  rotate_left
  · have e7 := hp.backV 2 0 rfl rfl rfl rfl rfl
    have k0 := (hI.cell (p := ⟨g, 0, none⟩) HD.out.lt).trans (HD.out.cell 0)
    simp only [dcs] at k0
    simp at k0
    refine ⟨Free.want_none rfl, ?_⟩
    clear hp
    go_simp
    rfl
  refine Free.Seq.op (T := TE5 w.heap.size) (fun v x y h hg => h.low hg) (fun a w1 hI hp => ?_) ?_
  · skip
    refine ⟨Free.want_none rfl, .slice (some ⟨w1.heap.size, 0, none⟩) 0 0, w1.alloc (.cells #[] 5), ?_, ⟨w1.heap.size, #[], rfl, hI.size, heap_alloc_new _ _⟩, (Below.refl _ _).alloc (Nat.le_refl _) _, hI.alloc hI.size _⟩
    clear hp hI
    go_simp
  refine Free.Seq.val ?_ (fun _ => Below.refl _ _) (fun a w1 hI hp => ?_) ?_
  rotate_left
  · have e0 := hp.slotV 0 (by kernel_rfl) rfl; simp at e0
    refine ⟨Free.want_none rfl, ?_⟩
    clear hp
    go_simp
    rfl
  refine Free.Seq.val ?_ (fun _ => Below.refl _ _) (fun a w1 hI hp => ?_) ?_
  rotate_left
  · have e10 := hp.backV 5 0 rfl rfl rfl rfl rfl
    refine ⟨Free.want_none rfl, ?_⟩
    clear hp
    go_simp
    rfl
  refine Free.Seq.val ?_ (fun _ => Below.refl _ _) (fun a w1 hI hp => ?_) ?_
  rotate_left
  · have e11 := hp.backV 6 0 rfl rfl rfl rfl rfl
    refine ⟨Free.want_none rfl, ?_⟩
    clear hp
    go_simp
    rfl
  refine Free.Seq.val ?_ (fun _ => Below.refl _ _) (fun a w1 hI hp => ?_) ?_
  rotate_left
  · have e12 := hp.backV 7 0 rfl rfl rfl rfl rfl
    have k1 := (hI.cell (p := ⟨g, 1, none⟩) HD.out.lt).trans (HD.out.cell 1)
    simp only [dcs] at k1
    simp at k1
    refine ⟨Free.want_none rfl, ?_⟩
    clear hp
    go_simp
    rfl
  refine Free.Seq.op (T := TE11 w.heap.size d.inn.length d.inn) (fun v x y h hg => h.low hg) (fun a w1 hI hp => ?_) ?_
  · have e13 := hp.backV 8 0 rfl rfl rfl rfl rfl
    obtain ⟨b5, cur5, e9, hb5, hc5⟩ := hp.back 4 4 rfl rfl rfl rfl rfl
    obtain ⟨A9, c9, w9, hrun, h9, hb9⟩ := run_app0 w1 elemB _ hc5 hb5 (A := Ai) (m := d.inn.length) ci (HRD.out.below hI).src (by omega)
    refine ⟨Free.want_none rfl, .slice A9 d.inn.length c9, w9, ?_, ⟨A9, c9, rfl, h9⟩, hb9, hI.trans (hb9.mono hI.size)⟩
    exact Free.exec_app (.tmp 9) (.tmp 13) rfl (Free.eval_tmp e9) (Free.eval_tmp e13) hrun
  refine Free.Seq.val ?_ (fun _ => Below.refl _ _) (fun a w1 hI hp => ?_) ?_
  rotate_left
  · have e0 := hp.slotV 0 (by kernel_rfl) rfl; simp at e0
    refine ⟨Free.want_none rfl, ?_⟩
    clear hp
    go_simp
    rfl
  refine Free.Seq.val ?_ (fun _ => Below.refl _ _) (fun a w1 hI hp => ?_) ?_
  rotate_left
  · have e15 := hp.backV 10 0 rfl rfl rfl rfl rfl
    refine ⟨Free.want_none rfl, ?_⟩
    clear hp
    go_simp
    rfl
  refine Free.Seq.val ?_ (fun _ => Below.refl _ _) (fun a w1 hI hp => ?_) ?_
  rotate_left
  · have e16 := hp.backV 11 0 rfl rfl rfl rfl rfl
    refine ⟨Free.want_none rfl, ?_⟩
    clear hp
    go_simp
    rfl
  refine Free.Seq.val ?_ (fun _ => Below.refl _ _) (fun a w1 hI hp => ?_) ?_
  rotate_left
  · have e17 := hp.backV 12 0 rfl rfl rfl rfl rfl
    have k2 := (hI.cell (p := ⟨g, 2, none⟩) HD.out.lt).trans (HD.out.cell 2)
    have k3 := (hI.cell (p := ⟨g, 3, none⟩) HD.out.lt).trans (HD.out.cell 3)
    have k4 := (hI.cell (p := ⟨g, 4, none⟩) HD.out.lt).trans (HD.out.cell 4)
    have k5 := (hI.cell (p := ⟨g, 5, none⟩) HD.out.lt).trans (HD.out.cell 5)
    have k6 := (hI.cell (p := ⟨g, 6, none⟩) HD.out.lt).trans (HD.out.cell 6)
    simp only [dcs] at k2 k3 k4 k5 k6
    simp at k2 k3 k4 k5 k6
    refine ⟨Free.want_none rfl, ?_⟩
    clear hp
    go_simp
    rfl
  refine Free.Seq.op (T := TE14 w.heap.size d) (fun v x y h hg => h.low hg) (fun a w1 hI hp => ?_) ?_
  · have e8 := hp.backV 3 10 rfl rfl rfl rfl rfl; have e18 := hp.backV 13 0 rfl rfl rfl rfl rfl
    obtain ⟨A9, c9, e14, h9⟩ := hp.back 9 4 rfl rfl rfl rfl rfl
    refine ⟨Free.want_none rfl, .agg (dcs d (.slice A9 d.inn.length c9) (.slice none 0 0)), w1, ?_, ⟨A9, c9, rfl, h9⟩, Below.refl _ _, hI⟩
    clear hp hI h9
    go_simp
    simp [dcs]
  refine Free.Seq.op (T := TE15 w.heap.size d) (fun v x y h hg => h.low hg) (fun a w1 hI hp => ?_) ?_
  · skip
    obtain ⟨A9, c9, e19, h9⟩ := hp.back 14 0 rfl rfl rfl rfl rfl
    refine ⟨Free.want_none rfl, .pointer (some ⟨w1.heap.size, 0, none⟩), w1.alloc (.cells (dcs d (.slice A9 d.inn.length c9) (.slice none 0 0)) 49), ?_, ⟨w1.heap.size, A9, c9, rfl, hI.size, ⟨hI.size, Nat.zero_le _, heap_alloc_new _ _, h9.kept fun k e => ((Below.refl _ _).alloc (Nat.le_refl _) _).block k (h9.lt k e).2, Sl.nil _ _ _, Told.nil _ _ _⟩⟩, (Below.refl _ _).alloc (Nat.le_refl _) _, hI.alloc hI.size _⟩
    clear hp hI h9
    go_simp
  refine Free.Seq.op (T := TE15 w.heap.size d) (fun v x y h hg => h.low hg) (fun a w1 hI hp => ?_) ?_
  · skip
    obtain ⟨q, A9, c9, e20, hq, h9⟩ := hp.back 15 0 rfl rfl rfl rfl rfl
    refine ⟨Free.want_none rfl, .pointer (some ⟨q, 0, none⟩), w1, ?_, ⟨q, A9, c9, rfl, hq, h9⟩, Below.refl _ _, hI⟩
    clear hp hI h9
    go_simp
  refine Free.Seq.done (by simp) (fun wz hIz => ?_)
  simp only [List.reverse_cons, List.reverse_nil, List.nil_append, List.cons_append, Free.All, Free.eqF, forall_eq]
  skip
  simp only [Free.putL, Act.put, List.setIfInBounds_toArray, List.set_cons_zero, List.set_cons_succ]
  rintro x5 - x11 - x12 - x13 - x14 h14
  have H14 := Lib.hid h14
  have HIZ := Lib.hid hIz
  clear h14 hIz
  go_wp2
  go_ret
  obtain ⟨q, A9, c9, rfl, hq, h9⟩ := H14.out
  exact ⟨q, A9, c9, rfl, hq, h9, HIZ.out⟩

set_option maxHeartbeats 1000000 in
theorem dclone_nil (w : World) : Calls Try.prog 19 #[.pointer none] w fun e w' => e = .returned (.pointer none) ∧ w = w' := by
  go_enter Try.func19, Try.ntmps19
  go_wp2
  go_ret
  exact ⟨rfl, rfl⟩
set_option maxHeartbeats 1000000 in
theorem dfeed_nil (w : World) (A : Option Addr) (n c : Nat) : Calls Try.prog 12 #[.pointer none, .slice A n c] w fun e w' => e = .returned (.slice none 0 0) ∧ w = w' := by
  go_enter Try.func12, Try.ntmps12
  go_wp2
  go_ret
  exact ⟨rfl, rfl⟩
set_option maxHeartbeats 1000000 in
theorem dstats_nil (w : World) : Calls Try.prog 15 #[.pointer none] w fun e w' => e = .returned (mets ⟨0, 0, 0, 0, 0⟩) ∧ Below w.heap.size w w' := by
  go_enter Try.func15, Try.ntmps15
  go_wp2
  go_returns
  exact ⟨rfl, (Below.refl _ _).alloc (Nat.le_refl _) _⟩
end Go.Proofs.Ytpfilomckijmkaa
