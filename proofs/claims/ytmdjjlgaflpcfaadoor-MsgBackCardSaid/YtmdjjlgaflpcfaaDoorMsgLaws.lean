/-
  MsgChecks, MsgOrders.
-/
import Derived.Test.YtmdjjlgaflpcfaaDoorMsgAwake
namespace Go.Proofs.YtmdjjlgaflpcfaaDoor
open Go.RowKit Mg

set_option maxRecDepth 100000 in
set_option maxHeartbeats 2000000 in
/-- MsgChecks -/
theorem checks_law (i : Mid) (A : Option Addr) (n c : Nat) (w : World) : Calls Tryd.prog 5 #[msgv i (.slice A n c)] w fun e w' => e = .returned (.bool true) ∧ Below w.heap.size w w' := by
  have HC := Lib.hid (fun W => check_any i W)
  have HR := Lib.hid (fun W => rcheck_any i W)
  have HM := Lib.hid (fun W => checkm_any i A n c W)
  have HN := Lib.hid (fun W => rcheckm_any i A n c W)
  obtain ⟨z, hz⟩ : ∃ z, z = chk i := ⟨_, rfl⟩
  obtain ⟨y, hy⟩ : ∃ y, y = chkM i n := ⟨_, rfl⟩
  rw [← hz] at HC HR
  rw [← hy] at HM HN
  clear hz hy
  obtain ⟨io, id, ie, ic⟩ := i
  unfold idv at HC HR
  unfold msgv at HM HN ⊢
  go_enter Tryd.func5, Tryd.ntmps5
  go_wp2_with fail
  have hbw := (Below.refl w.heap.size w).alloc (Nat.le_refl _) (.cells #[.int .i64 io, .int .i64 id, .int .i64 ie, .int .i64 ic, .slice A n c] 32)
  have hlt : w.heap.size < (w.alloc (.cells #[.int .i64 io, .int .i64 id, .int .i64 ie, .int .i64 ic, .slice A n c] 32)).heap.size := by simp
  have h0 : (w.alloc (.cells #[.int .i64 io, .int .i64 id, .int .i64 ie, .int .i64 ic, .slice A n c] 32)).heap[w.heap.size]? = some (.cells #[.int .i64 io, .int .i64 id, .int .i64 ie, .int .i64 ic, .slice A n c] 32) := heap_alloc_new _ _
  have HBW := Lib.hid hbw
  have HH := Lib.hid h0
  clear hbw h0
  obtain ⟨w0, hw0⟩ : ∃ w0, w0 = w.alloc (.cells #[.int .i64 io, .int .i64 id, .int .i64 ie, .int .i64 ic, .slice A n c] 32) := ⟨_, rfl⟩
  rw [← hw0] at HBW HH hlt ⊢
  clear hw0
  refine Free.wp_seq (I := fun w' => Below w0.heap.size w0 w') (Gr := fun w1 w2 => Below w1.heap.size w1 w2) (by kernel_rfl) (by kernel_rfl) (Below.refl _ _).drew ?_
  refine Free.Seq.val ?_ (fun _ => Below.refl _ _) (fun a w1 hI hp => ?_) ?_
  rotate_left
  · have e1 := hp.slotV 1 (by kernel_rfl) rfl; simp at e1
    refine ⟨Free.want_none rfl, ?_⟩
    clear hp
    go_simp
    rfl
  refine Free.Seq.val ?_ (fun _ => Below.refl _ _) (fun a w1 hI hp => ?_) ?_
  rotate_left
  · have e3 := hp.backV 0 0 rfl rfl rfl rfl rfl
    have k0 := (hI.cell (p := ⟨w.heap.size, 0, none⟩) hlt).trans (cell_of_cells HH.out 0)
    have k1 := (hI.cell (p := ⟨w.heap.size, 1, none⟩) hlt).trans (cell_of_cells HH.out 1)
    have k2 := (hI.cell (p := ⟨w.heap.size, 2, none⟩) hlt).trans (cell_of_cells HH.out 2)
    have k3 := (hI.cell (p := ⟨w.heap.size, 3, none⟩) hlt).trans (cell_of_cells HH.out 3)
    refine ⟨Free.want_none rfl, ?_⟩
    clear hp
    go_simp
    rfl
  refine Free.Seq.call (T := Free.eqF (.int .i64 z)) (fun _ _ _ h _ => h) (fun a w1 hI hp => ?_) ?_
  · have e4 := hp.backV 1 0 rfl rfl rfl rfl rfl
    refine ⟨Free.want_none rfl, 16, #[(.agg #[.int .i64 io, .int .i64 id, .int .i64 ie, .int .i64 ic])], ?_, ?_⟩
    · clear hp
      go_simp
    · refine (HC.out _).mono ?_
      rintro e w' ⟨rfl, hb⟩
      exact ⟨_, rfl, rfl, hb, hI.trans (hb.mono hI.size)⟩
  refine Free.Seq.val ?_ (fun _ => Below.refl _ _) (fun a w1 hI hp => ?_) ?_
  rotate_left
  · have e1 := hp.slotV 1 (by kernel_rfl) rfl; simp at e1
    refine ⟨Free.want_none rfl, ?_⟩
    clear hp
    go_simp
    rfl
  refine Free.Seq.val ?_ (fun _ => Below.refl _ _) (fun a w1 hI hp => ?_) ?_
  rotate_left
  · have e6 := hp.backV 3 0 rfl rfl rfl rfl rfl
    have k0 := (hI.cell (p := ⟨w.heap.size, 0, none⟩) hlt).trans (cell_of_cells HH.out 0)
    have k1 := (hI.cell (p := ⟨w.heap.size, 1, none⟩) hlt).trans (cell_of_cells HH.out 1)
    have k2 := (hI.cell (p := ⟨w.heap.size, 2, none⟩) hlt).trans (cell_of_cells HH.out 2)
    have k3 := (hI.cell (p := ⟨w.heap.size, 3, none⟩) hlt).trans (cell_of_cells HH.out 3)
    refine ⟨Free.want_none rfl, ?_⟩
    clear hp
    go_simp
    rfl
  refine Free.Seq.call (T := Free.eqF (.int .i64 z)) (fun _ _ _ h _ => h) (fun a w1 hI hp => ?_) ?_
  · have e7 := hp.backV 4 0 rfl rfl rfl rfl rfl
    refine ⟨Free.want_none rfl, 17, #[(.agg #[.int .i64 io, .int .i64 id, .int .i64 ie, .int .i64 ic])], ?_, ?_⟩
    · clear hp
      go_simp
    · refine (HR.out _).mono ?_
      rintro e w' ⟨rfl, hb⟩
      exact ⟨_, rfl, rfl, hb, hI.trans (hb.mono hI.size)⟩
  refine Free.Seq.val ?_ (fun _ => Below.refl _ _) (fun a w1 hI hp => ?_) ?_
  rotate_left
  · have e5 := hp.backV 2 3 rfl rfl rfl rfl rfl; have e8 := hp.backV 5 0 rfl rfl rfl rfl rfl
    refine ⟨Free.want_none rfl, ?_⟩
    clear hp
    go_simp
    rfl
  refine Free.Seq.val ?_ (fun _ => Below.refl _ _) (fun a w1 hI hp => ?_) ?_
  rotate_left
  · have e9 := hp.backV 6 0 rfl rfl rfl rfl rfl
    refine ⟨Free.want_none rfl, ?_⟩
    clear hp
    go_simp
    rfl
  refine Free.Seq.val ?_ (fun _ => Below.refl _ _) (fun a w1 hI hp => ?_) ?_
  rotate_left
  · have e10 := hp.backV 7 0 rfl rfl rfl rfl rfl; have e1 := hp.slotV 1 (by kernel_rfl) rfl; simp at e1
    have k0 := (hI.cell (p := ⟨w.heap.size, 0, none⟩) hlt).trans (cell_of_cells HH.out 0)
    have k1 := (hI.cell (p := ⟨w.heap.size, 1, none⟩) hlt).trans (cell_of_cells HH.out 1)
    have k2 := (hI.cell (p := ⟨w.heap.size, 2, none⟩) hlt).trans (cell_of_cells HH.out 2)
    have k3 := (hI.cell (p := ⟨w.heap.size, 3, none⟩) hlt).trans (cell_of_cells HH.out 3)
    have k4 := (hI.cell (p := ⟨w.heap.size, 4, none⟩) hlt).trans (cell_of_cells HH.out 4)
    refine ⟨hp.want rfl rfl rfl e10, ?_⟩
    clear hp
    go_simp
    rfl
  refine Free.Seq.call (T := Free.eqF (.int .i64 y)) (fun _ _ _ h _ => h) (fun a w1 hI hp => ?_) ?_
  · have e10 := hp.backV 7 1 rfl rfl rfl rfl rfl; have e11 := hp.backV 8 0 rfl rfl rfl rfl rfl
    refine ⟨hp.want rfl rfl rfl e10, 18, #[(.agg #[.int .i64 io, .int .i64 id, .int .i64 ie, .int .i64 ic, .slice A n c])], ?_, ?_⟩
    · clear hp
      go_simp
    · refine (HM.out _).mono ?_
      rintro e w' ⟨rfl, hb⟩
      exact ⟨_, rfl, rfl, hb, hI.trans (hb.mono hI.size)⟩
  refine Free.Seq.val ?_ (fun _ => Below.refl _ _) (fun a w1 hI hp => ?_) ?_
  rotate_left
  · have e10 := hp.backV 7 2 rfl rfl rfl rfl rfl; have e1 := hp.slotV 1 (by kernel_rfl) rfl; simp at e1
    have k0 := (hI.cell (p := ⟨w.heap.size, 0, none⟩) hlt).trans (cell_of_cells HH.out 0)
    have k1 := (hI.cell (p := ⟨w.heap.size, 1, none⟩) hlt).trans (cell_of_cells HH.out 1)
    have k2 := (hI.cell (p := ⟨w.heap.size, 2, none⟩) hlt).trans (cell_of_cells HH.out 2)
    have k3 := (hI.cell (p := ⟨w.heap.size, 3, none⟩) hlt).trans (cell_of_cells HH.out 3)
    have k4 := (hI.cell (p := ⟨w.heap.size, 4, none⟩) hlt).trans (cell_of_cells HH.out 4)
    refine ⟨hp.want rfl rfl rfl e10, ?_⟩
    clear hp
    go_simp
    rfl
  refine Free.Seq.call (T := Free.eqF (.int .i64 y)) (fun _ _ _ h _ => h) (fun a w1 hI hp => ?_) ?_
  · have e10 := hp.backV 7 3 rfl rfl rfl rfl rfl; have e13 := hp.backV 10 0 rfl rfl rfl rfl rfl
    refine ⟨hp.want rfl rfl rfl e10, 19, #[(.agg #[.int .i64 io, .int .i64 id, .int .i64 ie, .int .i64 ic, .slice A n c])], ?_, ?_⟩
    · clear hp
      go_simp
    · refine (HN.out _).mono ?_
      rintro e w' ⟨rfl, hb⟩
      exact ⟨_, rfl, rfl, hb, hI.trans (hb.mono hI.size)⟩
  refine Free.Seq.val ?_ (fun _ => Below.refl _ _) (fun a w1 hI hp => ?_) ?_
  rotate_left
  · have e10 := hp.backV 7 4 rfl rfl rfl rfl rfl; have e12 := hp.backV 9 2 rfl rfl rfl rfl rfl; have e14 := hp.backV 11 0 rfl rfl rfl rfl rfl
    refine ⟨hp.want rfl rfl rfl e10, ?_⟩
    clear hp
    go_simp
    rfl
  refine Free.Seq.val ?_ (fun _ => Below.refl _ _) (fun a w1 hI hp => ?_) ?_
  rotate_left
  · have e10 := hp.backV 7 5 rfl rfl rfl rfl rfl; have e15 := hp.backV 12 0 rfl rfl rfl rfl rfl
    refine ⟨Free.want_none rfl, ?_⟩
    clear hp
    go_simp
    rfl
  refine Free.Seq.val ?_ (fun _ => Below.refl _ _) (fun a w1 hI hp => ?_) ?_
  rotate_left
  · have e16 := hp.backV 13 0 rfl rfl rfl rfl rfl
    refine ⟨Free.want_none rfl, ?_⟩
    clear hp
    go_simp
    rfl
  refine Free.Seq.call (T := Free.eqF (.bool true)) (fun _ _ _ h _ => h) (fun a w1 hI hp => ?_) ?_
  · have e17 := hp.backV 14 0 rfl rfl rfl rfl rfl
    refine ⟨hp.want rfl rfl rfl e17, 12, #[], ?_, ?_⟩
    · clear hp
      go_simp
    · refine (awake_any _).mono ?_
      rintro e w' ⟨rfl, hb⟩
      exact ⟨_, rfl, rfl, hb, hI.trans (hb.mono hI.size)⟩
  refine Free.Seq.val ?_ (fun _ => Below.refl _ _) (fun a w1 hI hp => ?_) ?_
  rotate_left
  · have e17 := hp.backV 14 1 rfl rfl rfl rfl rfl; have e18 := hp.backV 15 0 rfl rfl rfl rfl rfl
    refine ⟨Free.want_none rfl, ?_⟩
    clear hp
    go_simp
    rfl
  refine Free.Seq.val ?_ (fun _ => Below.refl _ _) (fun a w1 hI hp => ?_) ?_
  rotate_left
  · have e19 := hp.backV 16 0 rfl rfl rfl rfl rfl
    refine ⟨Free.want_none rfl, ?_⟩
    clear hp
    go_simp
    rfl
  refine Free.Seq.done (by simp) (fun wz hIz => ?_)
  simp only [List.reverse_cons, List.reverse_nil, List.nil_append, List.cons_append, Free.All, Free.eqF, forall_eq]
  skip
  simp only [Free.putL, Act.put, List.setIfInBounds_toArray, List.set_cons_zero, List.set_cons_succ]
  go_wp2
  go_ret
  exact ⟨rfl, HBW.out.trans (hIz.mono HBW.out.size)⟩

set_option maxRecDepth 100000 in
set_option maxHeartbeats 2000000 in
/-- MsgOrders -/
theorem orders_law (a b : Mid) (A B : Option Addr) (n m c k : Nat) (la lb : List UInt8) (w : World) (hA : Rd w A n c la) (hB : Rd w B m k lb) : Calls Tryd.prog 4 #[msgv a (.slice A n c), msgv b (.slice B m k)] w fun e w' => e = .returned (.bool true) ∧ Below w.heap.size w w' := by
  have HL := Lib.hid (fun W => less_any a b W)
  have HR := Lib.hid (fun W => rless_any a b W)
  have HS := Lib.hid (fun W h => same_any a b A B n m c k la lb W (hA.below h) (hB.below h))
  have HT := Lib.hid (fun W h => rsame_any a b A B n m c k la lb W (hA.below h) (hB.below h))
  have hU := (fun W h => same_any a a A A n n c c la la W (hA.below h) (hA.below h))
  rw [show (decide (a = a) && (la == la)) = true by simp] at hU
  have HU := Lib.hid hU
  clear hU
  obtain ⟨z, hz⟩ : ∃ z, z = less a b := ⟨_, rfl⟩
  obtain ⟨y, hy⟩ : ∃ y, y = (decide (a = b) && (la == lb)) := ⟨_, rfl⟩
  rw [← hz] at HL HR
  rw [← hy] at HS HT
  clear hz hy hA hB
  obtain ⟨ao, ad, ae, ac⟩ := a
  obtain ⟨bo, bd, be, bc⟩ := b
  unfold idv at HL HR
  unfold msgv at HS HT HU ⊢
  go_enter Tryd.func4, Tryd.ntmps4
  go_wp2_with fail
  have hbw := ((Below.refl w.heap.size w).alloc (Nat.le_refl _) (.cells #[.int .i64 ao, .int .i64 ad, .int .i64 ae, .int .i64 ac, .slice A n c] 32)).alloc (by simp) (.cells #[.int .i64 bo, .int .i64 bd, .int .i64 be, .int .i64 bc, .slice B m k] 32)
  obtain ⟨w0, hw0⟩ : ∃ w0, w0 = (w.alloc (.cells #[.int .i64 ao, .int .i64 ad, .int .i64 ae, .int .i64 ac, .slice A n c] 32)).alloc (.cells #[.int .i64 bo, .int .i64 bd, .int .i64 be, .int .i64 bc, .slice B m k] 32) := ⟨_, rfl⟩
  have hlt : w.heap.size < w0.heap.size := by rw [hw0]; simp; omega
  have hlt1 : w.heap.size + 1 < w0.heap.size := by rw [hw0]; simp
  have h0 : w0.heap[w.heap.size]? = some (.cells #[.int .i64 ao, .int .i64 ad, .int .i64 ae, .int .i64 ac, .slice A n c] 32) := by
    rw [hw0]; exact (heap_alloc_old _ _ (by simp)).trans (heap_alloc_new _ _)
  have h1 : w0.heap[w.heap.size + 1]? = some (.cells #[.int .i64 bo, .int .i64 bd, .int .i64 be, .int .i64 bc, .slice B m k] 32) := by
    rw [hw0]
    have := heap_alloc_new (w.alloc (.cells #[.int .i64 ao, .int .i64 ad, .int .i64 ae, .int .i64 ac, .slice A n c] 32)) (.cells #[.int .i64 bo, .int .i64 bd, .int .i64 be, .int .i64 bc, .slice B m k] 32)
    simpa using this
  rw [← hw0] at hbw ⊢
  have HBW := Lib.hid hbw
  have HH := Lib.hid h0
  have HG := Lib.hid h1
  clear hbw h0 h1 hw0
  refine Free.wp_seq (I := fun w' => Below w0.heap.size w0 w') (Gr := fun w1 w2 => Below w1.heap.size w1 w2) (by kernel_rfl) (by kernel_rfl) (Below.refl _ _).drew ?_
  refine Free.Seq.val ?_ (fun _ => Below.refl _ _) (fun a w1 hI hp => ?_) ?_
  rotate_left
  · have e2 := hp.slotV 2 (by kernel_rfl) rfl; simp at e2
    refine ⟨Free.want_none rfl, ?_⟩
    clear hp
    go_simp
    rfl
  refine Free.Seq.val ?_ (fun _ => Below.refl _ _) (fun a w1 hI hp => ?_) ?_
  rotate_left
  · have e5 := hp.backV 0 0 rfl rfl rfl rfl rfl
    have k0 := (hI.cell (p := ⟨w.heap.size, 0, none⟩) hlt).trans (cell_of_cells HH.out 0)
    have k1 := (hI.cell (p := ⟨w.heap.size, 1, none⟩) hlt).trans (cell_of_cells HH.out 1)
    have k2 := (hI.cell (p := ⟨w.heap.size, 2, none⟩) hlt).trans (cell_of_cells HH.out 2)
    have k3 := (hI.cell (p := ⟨w.heap.size, 3, none⟩) hlt).trans (cell_of_cells HH.out 3)
    refine ⟨Free.want_none rfl, ?_⟩
    clear hp
    go_simp
    rfl
  refine Free.Seq.val ?_ (fun _ => Below.refl _ _) (fun a w1 hI hp => ?_) ?_
  rotate_left
  · have e3 := hp.slotV 3 (by kernel_rfl) rfl; simp at e3
    refine ⟨Free.want_none rfl, ?_⟩
    clear hp
    go_simp
    rfl
  refine Free.Seq.val ?_ (fun _ => Below.refl _ _) (fun a w1 hI hp => ?_) ?_
  rotate_left
  · have e7 := hp.backV 2 0 rfl rfl rfl rfl rfl
    have j0 := (hI.cell (p := ⟨w.heap.size + 1, 0, none⟩) hlt1).trans (cell_of_cells HG.out 0)
    have j1 := (hI.cell (p := ⟨w.heap.size + 1, 1, none⟩) hlt1).trans (cell_of_cells HG.out 1)
    have j2 := (hI.cell (p := ⟨w.heap.size + 1, 2, none⟩) hlt1).trans (cell_of_cells HG.out 2)
    have j3 := (hI.cell (p := ⟨w.heap.size + 1, 3, none⟩) hlt1).trans (cell_of_cells HG.out 3)
    refine ⟨Free.want_none rfl, ?_⟩
    clear hp
    go_simp
    rfl
  refine Free.Seq.call (T := Free.eqF (.bool z)) (fun _ _ _ h _ => h) (fun a w1 hI hp => ?_) ?_
  · have e6 := hp.backV 1 2 rfl rfl rfl rfl rfl; have e8 := hp.backV 3 0 rfl rfl rfl rfl rfl
    refine ⟨Free.want_none rfl, 10, #[(.agg #[.int .i64 ao, .int .i64 ad, .int .i64 ae, .int .i64 ac]), (.agg #[.int .i64 bo, .int .i64 bd, .int .i64 be, .int .i64 bc])], ?_, ?_⟩
    · clear hp
      go_simp
    · refine (HL.out _).mono ?_
      rintro e w' ⟨rfl, hb⟩
      exact ⟨_, rfl, rfl, hb, hI.trans (hb.mono hI.size)⟩
  refine Free.Seq.val ?_ (fun _ => Below.refl _ _) (fun a w1 hI hp => ?_) ?_
  rotate_left
  · have e2 := hp.slotV 2 (by kernel_rfl) rfl; simp at e2
    refine ⟨Free.want_none rfl, ?_⟩
    clear hp
    go_simp
    rfl
  refine Free.Seq.val ?_ (fun _ => Below.refl _ _) (fun a w1 hI hp => ?_) ?_
  rotate_left
  · have e10 := hp.backV 5 0 rfl rfl rfl rfl rfl
    have k0 := (hI.cell (p := ⟨w.heap.size, 0, none⟩) hlt).trans (cell_of_cells HH.out 0)
    have k1 := (hI.cell (p := ⟨w.heap.size, 1, none⟩) hlt).trans (cell_of_cells HH.out 1)
    have k2 := (hI.cell (p := ⟨w.heap.size, 2, none⟩) hlt).trans (cell_of_cells HH.out 2)
    have k3 := (hI.cell (p := ⟨w.heap.size, 3, none⟩) hlt).trans (cell_of_cells HH.out 3)
    refine ⟨Free.want_none rfl, ?_⟩
    clear hp
    go_simp
    rfl
  refine Free.Seq.val ?_ (fun _ => Below.refl _ _) (fun a w1 hI hp => ?_) ?_
  rotate_left
  · have e3 := hp.slotV 3 (by kernel_rfl) rfl; simp at e3
    refine ⟨Free.want_none rfl, ?_⟩
    clear hp
    go_simp
    rfl
  refine Free.Seq.val ?_ (fun _ => Below.refl _ _) (fun a w1 hI hp => ?_) ?_
  rotate_left
  · have e12 := hp.backV 7 0 rfl rfl rfl rfl rfl
    have j0 := (hI.cell (p := ⟨w.heap.size + 1, 0, none⟩) hlt1).trans (cell_of_cells HG.out 0)
    have j1 := (hI.cell (p := ⟨w.heap.size + 1, 1, none⟩) hlt1).trans (cell_of_cells HG.out 1)
    have j2 := (hI.cell (p := ⟨w.heap.size + 1, 2, none⟩) hlt1).trans (cell_of_cells HG.out 2)
    have j3 := (hI.cell (p := ⟨w.heap.size + 1, 3, none⟩) hlt1).trans (cell_of_cells HG.out 3)
    refine ⟨Free.want_none rfl, ?_⟩
    clear hp
    go_simp
    rfl
  refine Free.Seq.call (T := Free.eqF (.bool z)) (fun _ _ _ h _ => h) (fun a w1 hI hp => ?_) ?_
  · have e11 := hp.backV 6 2 rfl rfl rfl rfl rfl; have e13 := hp.backV 8 0 rfl rfl rfl rfl rfl
    refine ⟨Free.want_none rfl, 13, #[(.agg #[.int .i64 ao, .int .i64 ad, .int .i64 ae, .int .i64 ac]), (.agg #[.int .i64 bo, .int .i64 bd, .int .i64 be, .int .i64 bc])], ?_, ?_⟩
    · clear hp
      go_simp
    · refine (HR.out _).mono ?_
      rintro e w' ⟨rfl, hb⟩
      exact ⟨_, rfl, rfl, hb, hI.trans (hb.mono hI.size)⟩
  refine Free.Seq.val ?_ (fun _ => Below.refl _ _) (fun a w1 hI hp => ?_) ?_
  rotate_left
  · have e9 := hp.backV 4 5 rfl rfl rfl rfl rfl; have e14 := hp.backV 9 0 rfl rfl rfl rfl rfl
    refine ⟨Free.want_none rfl, ?_⟩
    clear hp
    go_simp
    rfl
  refine Free.Seq.val ?_ (fun _ => Below.refl _ _) (fun a w1 hI hp => ?_) ?_
  rotate_left
  · have e15 := hp.backV 10 0 rfl rfl rfl rfl rfl
    refine ⟨Free.want_none rfl, ?_⟩
    clear hp
    go_simp
    rfl
  refine Free.Seq.val ?_ (fun _ => Below.refl _ _) (fun a w1 hI hp => ?_) ?_
  rotate_left
  · have e16 := hp.backV 11 0 rfl rfl rfl rfl rfl; have e2 := hp.slotV 2 (by kernel_rfl) rfl; simp at e2
    have k0 := (hI.cell (p := ⟨w.heap.size, 0, none⟩) hlt).trans (cell_of_cells HH.out 0)
    have k1 := (hI.cell (p := ⟨w.heap.size, 1, none⟩) hlt).trans (cell_of_cells HH.out 1)
    have k2 := (hI.cell (p := ⟨w.heap.size, 2, none⟩) hlt).trans (cell_of_cells HH.out 2)
    have k3 := (hI.cell (p := ⟨w.heap.size, 3, none⟩) hlt).trans (cell_of_cells HH.out 3)
    have k4 := (hI.cell (p := ⟨w.heap.size, 4, none⟩) hlt).trans (cell_of_cells HH.out 4)
    refine ⟨hp.want rfl rfl rfl e16, ?_⟩
    clear hp
    go_simp
    rfl
  refine Free.Seq.val ?_ (fun _ => Below.refl _ _) (fun a w1 hI hp => ?_) ?_
  rotate_left
  · have e16 := hp.backV 11 1 rfl rfl rfl rfl rfl; have e3 := hp.slotV 3 (by kernel_rfl) rfl; simp at e3
    have j0 := (hI.cell (p := ⟨w.heap.size + 1, 0, none⟩) hlt1).trans (cell_of_cells HG.out 0)
    have j1 := (hI.cell (p := ⟨w.heap.size + 1, 1, none⟩) hlt1).trans (cell_of_cells HG.out 1)
    have j2 := (hI.cell (p := ⟨w.heap.size + 1, 2, none⟩) hlt1).trans (cell_of_cells HG.out 2)
    have j3 := (hI.cell (p := ⟨w.heap.size + 1, 3, none⟩) hlt1).trans (cell_of_cells HG.out 3)
    have j4 := (hI.cell (p := ⟨w.heap.size + 1, 4, none⟩) hlt1).trans (cell_of_cells HG.out 4)
    refine ⟨hp.want rfl rfl rfl e16, ?_⟩
    clear hp
    go_simp
    rfl
  refine Free.Seq.call (T := Free.eqF (.bool y)) (fun _ _ _ h _ => h) (fun a w1 hI hp => ?_) ?_
  · have e16 := hp.backV 11 2 rfl rfl rfl rfl rfl; have e17 := hp.backV 12 1 rfl rfl rfl rfl rfl; have e18 := hp.backV 13 0 rfl rfl rfl rfl rfl
    refine ⟨hp.want rfl rfl rfl e16, 14, #[(.agg #[.int .i64 ao, .int .i64 ad, .int .i64 ae, .int .i64 ac, .slice A n c]), (.agg #[.int .i64 bo, .int .i64 bd, .int .i64 be, .int .i64 bc, .slice B m k])], ?_, ?_⟩
    · clear hp
      go_simp
    · refine (HS.out _ (HBW.out.trans (hI.mono HBW.out.size))).mono ?_
      rintro e w' ⟨rfl, hb⟩
      exact ⟨_, rfl, rfl, hb, hI.trans (hb.mono hI.size)⟩
  refine Free.Seq.val ?_ (fun _ => Below.refl _ _) (fun a w1 hI hp => ?_) ?_
  rotate_left
  · have e16 := hp.backV 11 3 rfl rfl rfl rfl rfl; have e2 := hp.slotV 2 (by kernel_rfl) rfl; simp at e2
    have k0 := (hI.cell (p := ⟨w.heap.size, 0, none⟩) hlt).trans (cell_of_cells HH.out 0)
    have k1 := (hI.cell (p := ⟨w.heap.size, 1, none⟩) hlt).trans (cell_of_cells HH.out 1)
    have k2 := (hI.cell (p := ⟨w.heap.size, 2, none⟩) hlt).trans (cell_of_cells HH.out 2)
    have k3 := (hI.cell (p := ⟨w.heap.size, 3, none⟩) hlt).trans (cell_of_cells HH.out 3)
    have k4 := (hI.cell (p := ⟨w.heap.size, 4, none⟩) hlt).trans (cell_of_cells HH.out 4)
    refine ⟨hp.want rfl rfl rfl e16, ?_⟩
    clear hp
    go_simp
    rfl
  refine Free.Seq.val ?_ (fun _ => Below.refl _ _) (fun a w1 hI hp => ?_) ?_
  rotate_left
  · have e16 := hp.backV 11 4 rfl rfl rfl rfl rfl; have e3 := hp.slotV 3 (by kernel_rfl) rfl; simp at e3
    have j0 := (hI.cell (p := ⟨w.heap.size + 1, 0, none⟩) hlt1).trans (cell_of_cells HG.out 0)
    have j1 := (hI.cell (p := ⟨w.heap.size + 1, 1, none⟩) hlt1).trans (cell_of_cells HG.out 1)
    have j2 := (hI.cell (p := ⟨w.heap.size + 1, 2, none⟩) hlt1).trans (cell_of_cells HG.out 2)
    have j3 := (hI.cell (p := ⟨w.heap.size + 1, 3, none⟩) hlt1).trans (cell_of_cells HG.out 3)
    have j4 := (hI.cell (p := ⟨w.heap.size + 1, 4, none⟩) hlt1).trans (cell_of_cells HG.out 4)
    refine ⟨hp.want rfl rfl rfl e16, ?_⟩
    clear hp
    go_simp
    rfl
  refine Free.Seq.call (T := Free.eqF (.bool y)) (fun _ _ _ h _ => h) (fun a w1 hI hp => ?_) ?_
  · have e16 := hp.backV 11 5 rfl rfl rfl rfl rfl; have e20 := hp.backV 15 1 rfl rfl rfl rfl rfl; have e21 := hp.backV 16 0 rfl rfl rfl rfl rfl
    refine ⟨hp.want rfl rfl rfl e16, 15, #[(.agg #[.int .i64 ao, .int .i64 ad, .int .i64 ae, .int .i64 ac, .slice A n c]), (.agg #[.int .i64 bo, .int .i64 bd, .int .i64 be, .int .i64 bc, .slice B m k])], ?_, ?_⟩
    · clear hp
      go_simp
    · refine (HT.out _ (HBW.out.trans (hI.mono HBW.out.size))).mono ?_
      rintro e w' ⟨rfl, hb⟩
      exact ⟨_, rfl, rfl, hb, hI.trans (hb.mono hI.size)⟩
  refine Free.Seq.val ?_ (fun _ => Below.refl _ _) (fun a w1 hI hp => ?_) ?_
  rotate_left
  · have e16 := hp.backV 11 6 rfl rfl rfl rfl rfl; have e19 := hp.backV 14 3 rfl rfl rfl rfl rfl; have e22 := hp.backV 17 0 rfl rfl rfl rfl rfl
    refine ⟨hp.want rfl rfl rfl e16, ?_⟩
    clear hp
    go_simp
    rfl
  refine Free.Seq.val ?_ (fun _ => Below.refl _ _) (fun a w1 hI hp => ?_) ?_
  rotate_left
  · have e16 := hp.backV 11 7 rfl rfl rfl rfl rfl; have e23 := hp.backV 18 0 rfl rfl rfl rfl rfl
    refine ⟨Free.want_none rfl, ?_⟩
    clear hp
    go_simp
    rfl
  refine Free.Seq.val ?_ (fun _ => Below.refl _ _) (fun a w1 hI hp => ?_) ?_
  rotate_left
  · have e24 := hp.backV 19 0 rfl rfl rfl rfl rfl
    refine ⟨Free.want_none rfl, ?_⟩
    clear hp
    go_simp
    rfl
  refine Free.Seq.val ?_ (fun _ => Below.refl _ _) (fun a w1 hI hp => ?_) ?_
  rotate_left
  · have e25 := hp.backV 20 0 rfl rfl rfl rfl rfl; have e2 := hp.slotV 2 (by kernel_rfl) rfl; simp at e2
    have k0 := (hI.cell (p := ⟨w.heap.size, 0, none⟩) hlt).trans (cell_of_cells HH.out 0)
    have k1 := (hI.cell (p := ⟨w.heap.size, 1, none⟩) hlt).trans (cell_of_cells HH.out 1)
    have k2 := (hI.cell (p := ⟨w.heap.size, 2, none⟩) hlt).trans (cell_of_cells HH.out 2)
    have k3 := (hI.cell (p := ⟨w.heap.size, 3, none⟩) hlt).trans (cell_of_cells HH.out 3)
    have k4 := (hI.cell (p := ⟨w.heap.size, 4, none⟩) hlt).trans (cell_of_cells HH.out 4)
    refine ⟨hp.want rfl rfl rfl e25, ?_⟩
    clear hp
    go_simp
    rfl
  refine Free.Seq.val ?_ (fun _ => Below.refl _ _) (fun a w1 hI hp => ?_) ?_
  rotate_left
  · have e25 := hp.backV 20 1 rfl rfl rfl rfl rfl; have e2 := hp.slotV 2 (by kernel_rfl) rfl; simp at e2
    have k0 := (hI.cell (p := ⟨w.heap.size, 0, none⟩) hlt).trans (cell_of_cells HH.out 0)
    have k1 := (hI.cell (p := ⟨w.heap.size, 1, none⟩) hlt).trans (cell_of_cells HH.out 1)
    have k2 := (hI.cell (p := ⟨w.heap.size, 2, none⟩) hlt).trans (cell_of_cells HH.out 2)
    have k3 := (hI.cell (p := ⟨w.heap.size, 3, none⟩) hlt).trans (cell_of_cells HH.out 3)
    have k4 := (hI.cell (p := ⟨w.heap.size, 4, none⟩) hlt).trans (cell_of_cells HH.out 4)
    refine ⟨hp.want rfl rfl rfl e25, ?_⟩
    clear hp
    go_simp
    rfl
  refine Free.Seq.call (T := Free.eqF (.bool true)) (fun _ _ _ h _ => h) (fun a w1 hI hp => ?_) ?_
  · have e25 := hp.backV 20 2 rfl rfl rfl rfl rfl; have e26 := hp.backV 21 1 rfl rfl rfl rfl rfl; have e27 := hp.backV 22 0 rfl rfl rfl rfl rfl
    refine ⟨hp.want rfl rfl rfl e25, 14, #[(.agg #[.int .i64 ao, .int .i64 ad, .int .i64 ae, .int .i64 ac, .slice A n c]), (.agg #[.int .i64 ao, .int .i64 ad, .int .i64 ae, .int .i64 ac, .slice A n c])], ?_, ?_⟩
    · clear hp
      go_simp
    · refine (HU.out _ (HBW.out.trans (hI.mono HBW.out.size))).mono ?_
      rintro e w' ⟨rfl, hb⟩
      exact ⟨_, rfl, rfl, hb, hI.trans (hb.mono hI.size)⟩
  refine Free.Seq.val ?_ (fun _ => Below.refl _ _) (fun a w1 hI hp => ?_) ?_
  rotate_left
  · have e25 := hp.backV 20 3 rfl rfl rfl rfl rfl; have e28 := hp.backV 23 0 rfl rfl rfl rfl rfl
    refine ⟨Free.want_none rfl, ?_⟩
    clear hp
    go_simp
    rfl
  refine Free.Seq.val ?_ (fun _ => Below.refl _ _) (fun a w1 hI hp => ?_) ?_
  rotate_left
  · have e29 := hp.backV 24 0 rfl rfl rfl rfl rfl
    refine ⟨Free.want_none rfl, ?_⟩
    clear hp
    go_simp
    rfl
  refine Free.Seq.call (T := Free.eqF (.bool true)) (fun _ _ _ h _ => h) (fun a w1 hI hp => ?_) ?_
  · have e30 := hp.backV 25 0 rfl rfl rfl rfl rfl
    refine ⟨hp.want rfl rfl rfl e30, 12, #[], ?_, ?_⟩
    · clear hp
      go_simp
    · refine (awake_any _).mono ?_
      rintro e w' ⟨rfl, hb⟩
      exact ⟨_, rfl, rfl, hb, hI.trans (hb.mono hI.size)⟩
  refine Free.Seq.val ?_ (fun _ => Below.refl _ _) (fun a w1 hI hp => ?_) ?_
  rotate_left
  · have e30 := hp.backV 25 1 rfl rfl rfl rfl rfl; have e31 := hp.backV 26 0 rfl rfl rfl rfl rfl
    refine ⟨Free.want_none rfl, ?_⟩
    clear hp
    go_simp
    rfl
  refine Free.Seq.val ?_ (fun _ => Below.refl _ _) (fun a w1 hI hp => ?_) ?_
  rotate_left
  · have e32 := hp.backV 27 0 rfl rfl rfl rfl rfl
    refine ⟨Free.want_none rfl, ?_⟩
    clear hp
    go_simp
    rfl
  refine Free.Seq.done (by simp) (fun wz hIz => ?_)
  simp only [List.reverse_cons, List.reverse_nil, List.nil_append, List.cons_append, Free.All, Free.eqF, forall_eq]
  skip
  simp only [Free.putL, Act.put, List.setIfInBounds_toArray, List.set_cons_zero, List.set_cons_succ]
  go_wp2
  go_ret
  exact ⟨rfl, HBW.out.trans (hIz.mono HBW.out.size)⟩

end Go.Proofs.YtmdjjlgaflpcfaaDoor
