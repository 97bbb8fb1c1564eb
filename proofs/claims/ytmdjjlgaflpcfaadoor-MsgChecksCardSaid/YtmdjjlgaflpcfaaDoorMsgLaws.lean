/-
  MsgChecks, MsgOrders.
-/
import Derived.Test.YtmdjjlgaflpcfaaDoorMsgAwake
namespace Go.Proofs.YtmdjjlgaflpcfaaDoor
open Go.RowKit Mg

set_option maxRecDepth 100000 in
set_option maxHeartbeats 2000000 in
/-- MsgChecks -/
theorem checks_law (i : Mid) (A : Option Addr) (n c : Nat) (w : World) : Calls Tryd.prog 5 #[msgv i (.slice A n c)] w fun e w' => e = .returned (.bool true) ∧ Below w.heap.size w w' := by
  have HC := Lib.hid (fun W => check_any i W)
  have HR := Lib.hid (fun W => rcheck_any i W)
  have HM := Lib.hid (fun W => checkm_any i A n c W)
  have HN := Lib.hid (fun W => rcheckm_any i A n c W)
  obtain ⟨z, hz⟩ : ∃ z, z = chk i := ⟨_, rfl⟩
  obtain ⟨y, hy⟩ : ∃ y, y = chkM i n := ⟨_, rfl⟩
  rw [← hz] at HC HR
  rw [← hy] at HM HN
  clear hz hy
  obtain ⟨io, id, ie, ic⟩ := i
  unfold idv at HC HR
  unfold msgv at HM HN ⊢
  go_enter Tryd.func5, Tryd.ntmps5
  go_wp2_with fail
  have hbw := (Below.refl w.heap.size w).alloc (Nat.le_refl _) (.cells #[.int .i64 io, .int .i64 id, .int .i64 ie, .int .i64 ic, .slice A n c] 32)
  have hlt : w.heap.size < (w.alloc (.cells #[.int .i64 io, .int .i64 id, .int .i64 ie, .int .i64 ic, .slice A n c] 32)).heap.size := by simp
  have h0 : (w.alloc (.cells #[.int .i64 io, .int .i64 id, .int .i64 ie, .int .i64 ic, .slice A n c] 32)).heap[w.heap.size]? = some (.cells #[.int .i64 io, .int .i64 id, .int .i64 ie, .int .i64 ic, .slice A n c] 32) := heap_alloc_new _ _
  have HBW := Lib.hid hbw
  have HH := Lib.hid h0
  clear hbw h0
  obtain ⟨w0, hw0⟩ : ∃ w0, w0 = w.alloc (.cells #[.int .i64 io, .int .i64 id, .int .i64 ie, .int .i64 ic, .slice A n c] 32) := ⟨_, rfl⟩
  rw [← hw0] at HBW HH hlt ⊢
  clear hw0
  refine Free.wp_seq (I := fun w' => Below w0.heap.size w0 w') (Gr := fun w1 w2 => Below w1.heap.size w1 w2) (by kernel_rfl) (by kernel_rfl) (Below.refl _ _).drew ?_
  refine Free.Seq.val ?_ (fun _ => Below.refl _ _) (fun a w1 hI hp => ?_) ?_
  rotate_left
  · have e1 := hp.slotV 1 (by kernel_rfl) rfl; simp at e1
    refine ⟨Free.want_none rfl, ?_⟩
    clear hp
    go_simp
    rfl
  refine Free.Seq.val ?_ (fun _ => Below.refl _ _) (fun a w1 hI hp => ?_) ?_
  rotate_left
  · have e3 := hp.backV 0 0 rfl rfl rfl rfl rfl
    have k0 := (hI.cell (p := ⟨w.heap.size, 0, none⟩) hlt).trans (cell_of_cells HH.out 0)
    have k1 := (hI.cell (p := ⟨w.heap.size, 1, none⟩) hlt).trans (cell_of_cells HH.out 1)
    have k2 := (hI.cell (p := ⟨w.heap.size, 2, none⟩) hlt).trans (cell_of_cells HH.out 2)
    have k3 := (hI.cell (p := ⟨w.heap.size, 3, none⟩) hlt).trans (cell_of_cells HH.out 3)
    refine ⟨Free.want_none rfl, ?_⟩
    clear hp
    go_simp
    rfl
  refine Free.Seq.call (T := Free.eqF (.int .i64 z)) (fun _ _ _ h _ => h) (fun a w1 hI hp => ?_) ?_
  · have e4 := hp.backV 1 0 rfl rfl rfl rfl rfl
    refine ⟨Free.want_none rfl, 16, #[(.agg #[.int .i64 io, .int .i64 id, .int .i64 ie, .int .i64 ic])], ?_, ?_⟩
    · clear hp
      go_simp
    · refine (HC.out _).mono ?_
      rintro e w' ⟨rfl, hb⟩
      exact ⟨_, rfl, rfl, hb, hI.trans (hb.mono hI.size)⟩
  refine Free.Seq.val ?_ (fun _ => Below.refl _ _) (fun a w1 hI hp => ?_) ?_
  rotate_left
  · have e1 := hp.slotV 1 (by kernel_rfl) rfl; simp at e1
    refine ⟨Free.want_none rfl, ?_⟩
    clear hp
    go_simp
    rfl
  refine Free.Seq.val ?_ (fun _ => Below.refl _ _) (fun a w1 hI hp => ?_) ?_
  rotate_left
  · have e6 := hp.backV 3 0 rfl rfl rfl rfl rfl
    have k0 := (hI.cell (p := ⟨w.heap.size, 0, none⟩) hlt).trans (cell_of_cells HH.out 0)
    have k1 := (hI.cell (p := ⟨w.heap.size, 1, none⟩) hlt).trans (cell_of_cells HH.out 1)
    have k2 := (hI.cell (p := ⟨w.heap.size, 2, none⟩) hlt).trans (cell_of_cells HH.out 2)
    have k3 := (hI.cell (p := ⟨w.heap.size, 3, none⟩) hlt).trans (cell_of_cells HH.out 3)
    refine ⟨Free.want_none rfl, ?_⟩
    clear hp
    go_simp
    rfl
  refine Free.Seq.call (T := Free.eqF (.int .i64 z)) (fun _ _ _ h _ => h) (fun a w1 hI hp => ?_) ?_
  · have e7 := hp.backV 4 0 rfl rfl rfl rfl rfl
    refine ⟨Free.want_none rfl, 17, #[(.agg #[.int .i64 io, .int .i64 id, .int .i64 ie, .int .i64 ic])], ?_, ?_⟩
    · clear hp
      go_simp
    · refine (HR.out _).mono ?_
      rintro e w' ⟨rfl, hb⟩
      exact ⟨_, rfl, rfl, hb, hI.trans (hb.mono hI.size)⟩
  refine Free.Seq.val ?_ (fun _ => Below.refl _ _) (fun a w1 hI hp => ?_) ?_
  rotate_left
  · have e5 := hp.backV 2 3 rfl rfl rfl rfl rfl; have e8 := hp.backV 5 0 rfl rfl rfl rfl rfl
    refine ⟨Free.want_none rfl, ?_⟩
    clear hp
    go_simp
    rfl
  refine Free.Seq.val ?_ (fun _ => Below.refl _ _) (fun a w1 hI hp => ?_) ?_
  rotate_left
  · have e9 := hp.backV 6 0 rfl rfl rfl rfl rfl
    refine ⟨Free.want_none rfl, ?_⟩
    clear hp
    go_simp
    rfl
  refine Free.Seq.val ?_ (fun _ => Below.refl _ _) (fun a w1 hI hp => ?_) ?_
  rotate_left
  · have e10 := hp.backV 7 0 rfl rfl rfl rfl rfl; have e1 := hp.slotV 1 (by kernel_rfl) rfl; simp at e1
    have k0 := (hI.cell (p := ⟨w.heap.size, 0, none⟩) hlt).trans (cell_of_cells HH.out 0)
    have k1 := (hI.cell (p := ⟨w.heap.size, 1, none⟩) hlt).trans (cell_of_cells HH.out 1)
    have k2 := (hI.cell (p := ⟨w.heap.size, 2, none⟩) hlt).trans (cell_of_cells HH.out 2)
    have k3 := (hI.cell (p := ⟨w.heap.size, 3, none⟩) hlt).trans (cell_of_cells HH.out 3)
    have k4 := (hI.cell (p := ⟨w.heap.size, 4, none⟩) hlt).trans (cell_of_cells HH.out 4)
    refine ⟨hp.want rfl rfl rfl e10, ?_⟩
    clear hp
    go_simp
    rfl
  refine Free.Seq.call (T := Free.eqF (.int .i64 y)) (fun _ _ _ h _ => h) (fun a w1 hI hp => ?_) ?_
  · have e10 := hp.backV 7 1 rfl rfl rfl rfl rfl; have e11 := hp.backV 8 0 rfl rfl rfl rfl rfl
    refine ⟨hp.want rfl rfl rfl e10, 18, #[(.agg #[.int .i64 io, .int .i64 id, .int .i64 ie, .int .i64 ic, .slice A n c])], ?_, ?_⟩
    · clear hp
      go_simp
    · refine (HM.out _).mono ?_
      rintro e w' ⟨rfl, hb⟩
      exact ⟨_, rfl, rfl, hb, hI.trans (hb.mono hI.size)⟩
  refine Free.Seq.val ?_ (fun _ => Below.refl _ _) (fun a w1 hI hp => ?_) ?_
  rotate_left
  · have e10 := hp.backV 7 2 rfl rfl rfl rfl rfl; have e1 := hp.slotV 1 (by kernel_rfl) rfl; simp at e1
    have k0 := (hI.cell (p := ⟨w.heap.size, 0, none⟩) hlt).trans (cell_of_cells HH.out 0)
    have k1 := (hI.cell (p := ⟨w.heap.size, 1, none⟩) hlt).trans (cell_of_cells HH.out 1)
    have k2 := (hI.cell (p := ⟨w.heap.size, 2, none⟩) hlt).trans (cell_of_cells HH.out 2)
    have k3 := (hI.cell (p := ⟨w.heap.size, 3, none⟩) hlt).trans (cell_of_cells HH.out 3)
    have k4 := (hI.cell (p := ⟨w.heap.size, 4, none⟩) hlt).trans (cell_of_cells HH.out 4)
    refine ⟨hp.want rfl rfl rfl e10, ?_⟩
    clear hp
    go_simp
    rfl
  refine Free.Seq.call (T := Free.eqF (.int .i64 y)) (fun _ _ _ h _ => h) (fun a w1 hI hp => ?_) ?_
  · have e10 := hp.backV 7 3 rfl rfl rfl rfl rfl; have e13 := hp.backV 10 0 rfl rfl rfl rfl rfl
    refine ⟨hp.want rfl rfl rfl e10, 19, #[(.agg #[.int .i64 io, .int .i64 id, .int .i64 ie, .int .i64 ic, .slice A n c])], ?_, ?_⟩
    · clear hp
      go_simp
    · refine (HN.out _).mono ?_
      rintro e w' ⟨rfl, hb⟩
      exact ⟨_, rfl, rfl, hb, hI.trans (hb.mono hI.size)⟩
  refine Free.Seq.val ?_ (fun _ => Below.refl _ _) (fun a w1 hI hp => ?_) ?_
  rotate_left
  · have e10 := hp.backV 7 4 rfl rfl rfl rfl rfl; have e12 := hp.backV 9 2 rfl rfl rfl rfl rfl; have e14 := hp.backV 11 0 rfl rfl rfl rfl rfl
    refine ⟨hp.want rfl rfl rfl e10, ?_⟩
    clear hp
    go_simp
    rfl
  refine Free.Seq.val ?_ (fun _ => Below.refl _ _) (fun a w1 hI hp => ?_) ?_
  rotate_left
  · have e10 := hp.backV 7 5 rfl rfl rfl rfl rfl; have e15 := hp.backV 12 0 rfl rfl rfl rfl rfl
    refine ⟨Free.want_none rfl, ?_⟩
    clear hp
    go_simp
    rfl
  refine Free.Seq.val ?_ (fun _ => Below.refl _ _) (fun a w1 hI hp => ?_) ?_
  rotate_left
  · have e16 := hp.backV 13 0 rfl rfl rfl rfl rfl
    refine ⟨Free.want_none rfl, ?_⟩
    clear hp
    go_simp
    rfl
  refine Free.Seq.call (T := Free.eqF (.bool true)) (fun _ _ _ h _ => h) (fun a w1 hI hp => ?_) ?_
  · have e17 := hp.backV 14 0 rfl rfl rfl rfl rfl
    refine ⟨hp.want rfl rfl rfl e17, 12, #[], ?_, ?_⟩
    · clear hp
      go_simp
    · refine (awake_any _).mono ?_
      rintro e w' ⟨rfl, hb⟩
      exact ⟨_, rfl, rfl, hb, hI.trans (hb.mono hI.size)⟩
  refine Free.Seq.val ?_ (fun _ => Below.refl _ _) (fun a w1 hI hp => ?_) ?_
  rotate_left
  · have e17 := hp.backV 14 1 rfl rfl rfl rfl rfl; have e18 := hp.backV 15 0 rfl rfl rfl rfl rfl
    refine ⟨Free.want_none rfl, ?_⟩
    clear hp
    go_simp
    rfl
  refine Free.Seq.val ?_ (fun _ => Below.refl _ _) (fun a w1 hI hp => ?_) ?_
  rotate_left
  · have e19 := hp.backV 16 0 rfl rfl rfl rfl rfl
    refine ⟨Free.want_none rfl, ?_⟩
    clear hp
    go_simp
    rfl
  refine Free.Seq.done (by simp) (fun wz hIz => ?_)
  simp only [List.reverse_cons, List.reverse_nil, List.nil_append, List.cons_append, Free.All, Free.eqF, forall_eq]
  skip
  simp only [Free.putL, Act.put, List.setIfInBounds_toArray, List.set_cons_zero, List.set_cons_succ]
  go_wp2
  go_ret
  exact ⟨rfl, HBW.out.trans (hIz.mono HBW.out.size)⟩

end Go.Proofs.YtmdjjlgaflpcfaaDoor
