/-
  MsgOrder.
-/
import Derived.Test.YtmdjjlgaflpcfaaDoorMsgLaws
namespace Go.Proofs.YtmdjjlgaflpcfaaDoor
open Go.RowKit Mg

/-- three ids, boxed -/
def idc (i : Mid) : Obj := .cells #[.int .i64 i.o, .int .i64 i.d, .int .i64 i.e, .int .i64 i.c] 23

theorem boxes3 (w : World) (a b c : Mid) : ∃ w0, w0 = ((w.alloc (idc a)).alloc (idc b)).alloc (idc c) ∧ Below w.heap.size w w0 ∧ w.heap.size + 2 < w0.heap.size ∧ w0.heap[w.heap.size]? = some (idc a) ∧ w0.heap[w.heap.size + 1]? = some (idc b) ∧ w0.heap[w.heap.size + 2]? = some (idc c) := by
  refine ⟨_, rfl, (((Below.refl _ _).alloc (Nat.le_refl _) _).alloc (by simp) _).alloc (by simp; omega) _, by simp, ?_, ?_, ?_⟩
  · exact (heap_alloc_old _ _ (by simp; omega)).trans ((heap_alloc_old _ _ (by simp)).trans (heap_alloc_new _ _))
  · refine (heap_alloc_old _ _ (by simp)).trans ?_
    have := heap_alloc_new (w.alloc (idc a)) (idc b)
    simpa using this
  · have := heap_alloc_new ((w.alloc (idc a)).alloc (idc b)) (idc c)
    simpa using this

theorem be2 (x : Nat) : be x 2 = [UInt8.ofNat (x / 256 % 256), UInt8.ofNat (x % 256)] := by simp [be, beB]
theorem ofNat_lt (x y : Nat) (hx : x < 256) (hy : y < 256) : (UInt8.ofNat x < UInt8.ofNat y) ↔ x < y := by
  rw [UInt8.lt_iff_toNat_lt, UInt8.toNat_ofNat', UInt8.toNat_ofNat', Nat.mod_eq_of_lt hx, Nat.mod_eq_of_lt hy]
theorem ofNat_eq (x y : Nat) (hx : x < 256) (hy : y < 256) : (UInt8.ofNat x = UInt8.ofNat y) ↔ x = y := by
  rw [← UInt8.toNat_inj, UInt8.toNat_ofNat', UInt8.toNat_ofNat', Nat.mod_eq_of_lt hx, Nat.mod_eq_of_lt hy]
/-- ids that may be stand in the order of their bytes -/
theorem less_bytes (a b : Mid) (ha : In a) (hb : In b) : Op.bytesLess (idB a) (idB b) = less a b := by
  obtain ⟨ao, ad, ae, ac⟩ := a
  obtain ⟨bo, bd, be', bc⟩ := b
  obtain ⟨⟨a0, a1⟩, ⟨a2, a3⟩, ⟨a4, a5⟩, a6, a7⟩ := ha
  obtain ⟨⟨b0, b1⟩, ⟨b2, b3⟩, ⟨b4, b5⟩, b6, b7⟩ := hb
  simp only at a0 a1 a2 a3 a4 a5 a6 a7 b0 b1 b2 b3 b4 b5 b6 b7
  obtain ⟨x0, rfl⟩ := Int.eq_ofNat_of_zero_le a0
  obtain ⟨x1, rfl⟩ := Int.eq_ofNat_of_zero_le a2
  obtain ⟨x2, rfl⟩ := Int.eq_ofNat_of_zero_le (show 0 ≤ ae by omega)
  obtain ⟨x3, rfl⟩ := Int.eq_ofNat_of_zero_le (show 0 ≤ ac by omega)
  obtain ⟨y0, rfl⟩ := Int.eq_ofNat_of_zero_le b0
  obtain ⟨y1, rfl⟩ := Int.eq_ofNat_of_zero_le b2
  obtain ⟨y2, rfl⟩ := Int.eq_ofNat_of_zero_le (show 0 ≤ be' by omega)
  obtain ⟨y3, rfl⟩ := Int.eq_ofNat_of_zero_le (show 0 ≤ bc by omega)
  unfold idB less
  simp only [Int.toNat_natCast, be2, List.cons_append, List.nil_append, Op.bytesLess]
  rw [show x2 / 256 % 256 = x2 / 256 by omega, show x3 / 256 % 256 = x3 / 256 by omega, show y2 / 256 % 256 = y2 / 256 by omega, show y3 / 256 % 256 = y3 / 256 by omega]
  rw [Bool.eq_iff_iff]
  simp only [Bool.or_eq_true, Bool.and_eq_true, decide_eq_true_eq, beq_iff_eq]
  rw [ofNat_lt x0 y0 (by omega) (by omega), ofNat_lt x1 y1 (by omega) (by omega), ofNat_lt (x2 / 256) (y2 / 256) (by omega) (by omega), ofNat_lt (x2 % 256) (y2 % 256) (by omega) (by omega), ofNat_lt (x3 / 256) (y3 / 256) (by omega) (by omega), ofNat_lt (x3 % 256) (y3 % 256) (by omega) (by omega),
    ofNat_eq x0 y0 (by omega) (by omega), ofNat_eq x1 y1 (by omega) (by omega), ofNat_eq (x2 / 256) (y2 / 256) (by omega) (by omega), ofNat_eq (x2 % 256) (y2 % 256) (by omega) (by omega), ofNat_eq (x3 / 256) (y3 / 256) (by omega) (by omega)]
  split
  · simp only [decide_eq_true_eq]; omega
  · split
    · simp only [decide_eq_true_eq]; omega
    · split
      · simp only [decide_eq_true_eq]; omega
      · simp only [decide_eq_true_eq, Bool.false_eq_true, or_false, and_false]; omega
theorem less_total (a b : Mid) (h : a ≠ b) : less a b = !less b a := by
  obtain ⟨ao, ad, ae, ac⟩ := a
  obtain ⟨bo, bd, be, bc⟩ := b
  have h' : ¬ (ao = bo ∧ ad = bd ∧ ae = be ∧ ac = bc) := fun ⟨h1, h2, h3, h4⟩ => h (by rw [h1, h2, h3, h4])
  rw [Bool.eq_iff_iff]
  unfold less
  simp only [Bool.not_eq_true', ← Bool.not_eq_true]
  repeat' split
  all_goals simp only [decide_eq_true_eq]
  all_goals omega
theorem less_trans (a b c : Mid) (h : less a b = true) (k : less b c = true) : less a c = true := by
  obtain ⟨ao, ad, ae, ac⟩ := a
  obtain ⟨bo, bd, be, bc⟩ := b
  obtain ⟨co, cd, ce, cc⟩ := c
  unfold less at *
  simp only at *
  repeat' split at h
  all_goals repeat' split at k
  all_goals repeat' split
  all_goals simp only [decide_eq_true_eq] at *
  all_goals omega

/-- an id's bytes, none where it may not be -/
def pb (i : Mid) : List UInt8 := if chk i = 0 then idB i else []
theorem in_of_chk {i : Mid} (h : chk i = 0) : In i := by
  unfold chk at h
  split at h
  · assumption
  · cases h
theorem idB_len (i : Mid) : (idB i).length = 6 := by simp [idB, be_len]
theorem pb_len (i : Mid) : (pb i).length ≤ 6 := by
  unfold pb
  split
  · rw [idB_len]; omega
  · simp
theorem putid_any (i : Mid) (w : World) : Calls Tryd.prog 11 #[idv i] w fun en w' => ∃ A n k, en = .returned (.tuple #[.slice A n k, .int .i64 (chk i)]) ∧ n = (pb i).length ∧ OwnB w' w.heap.size 5 (.slice A n k) (pb i) ∧ Below w.heap.size w w' := by
  by_cases h : chk i = 0
  · have hin := in_of_chk h
    have hpb : pb i = idB i := if_pos h
    obtain ⟨o, d, e, c⟩ := i
    obtain ⟨⟨a0, a1⟩, ⟨a2, a3⟩, ⟨a4, a5⟩, a6, a7⟩ := hin
    simp only at a0 a1 a2 a3 a4 a5 a6 a7
    obtain ⟨x0, rfl⟩ := Int.eq_ofNat_of_zero_le a0
    obtain ⟨x1, rfl⟩ := Int.eq_ofNat_of_zero_le a2
    obtain ⟨x2, rfl⟩ := Int.eq_ofNat_of_zero_le (show 0 ≤ e by omega)
    obtain ⟨x3, rfl⟩ := Int.eq_ofNat_of_zero_le (show 0 ≤ c by omega)
    refine (putid_ok x0 x1 x2 x3 w (by omega) (by omega) (by omega) (by omega) (by omega) (by omega) h).mono ?_
    rintro en w' ⟨A, k, rfl, ho, hb⟩
    rw [hpb, h]
    exact ⟨A, 6, k, rfl, (idB_len _).symm, ho, hb⟩
  · refine (putid_bad i w h).mono ?_
    rintro en w' ⟨rfl, hb⟩
    have hpb : pb i = [] := if_neg h
    rw [hpb]
    exact ⟨none, 0, 0, rfl, rfl, World.ownsRow_nil _ _ _ _, hb⟩

set_option maxRecDepth 100000 in
set_option maxHeartbeats 8000000 in
/-- MsgOrder -/
theorem order_law (a b c : Mid) (w : World) : Calls Tryd.prog 3 #[idv a, idv b, idv c] w fun e w' => e = .returned (.bool true) ∧ Below w.heap.size w w' := by
  have HL1 := Lib.hid (fun W => less_any a b W)
  have HL2 := Lib.hid (fun W => less_any b a W)
  have HL3 := Lib.hid (fun W => less_any b c W)
  have HL4 := Lib.hid (fun W => less_any a c W)
  have HP1 := Lib.hid (fun W => putid_any a W)
  have HP2 := Lib.hid (fun W => putid_any b W)
  have hc1 : (a = b ∧ less a b = false ∧ less b a = false) ∨ (a ≠ b ∧ less a b = true ∧ less b a = false) ∨ (a ≠ b ∧ less a b = false ∧ less b a = true) := by
    by_cases h : a = b
    · subst h
      exact .inl ⟨rfl, less_irrefl a, less_irrefl a⟩
    · have h2 := less_total a b h
      cases h3 : less b a
      · exact .inr (.inl ⟨h, by rw [h2, h3]; rfl, rfl⟩)
      · exact .inr (.inr ⟨h, by rw [h2, h3]; rfl, rfl⟩)
  have hc3 : less a b = false ∨ (less a b = true ∧ less b c = false) ∨ (less a b = true ∧ less b c = true ∧ less a c = true) := by
    cases h1 : less a b
    · exact .inl rfl
    · cases h2 : less b c
      · exact .inr (.inl ⟨rfl, rfl⟩)
      · exact .inr (.inr ⟨rfl, rfl, less_trans a b c h1 h2⟩)
  have hc7 : chk a ≠ 0 ∨ (chk a = 0 ∧ chk b ≠ 0) ∨ (chk a = 0 ∧ chk b = 0 ∧ Op.bytesLess (pb a) (pb b) = less a b) := by
    by_cases h1 : chk a = 0
    · by_cases h2 : chk b = 0
      · exact .inr (.inr ⟨h1, h2, by unfold pb; rw [if_pos h1, if_pos h2]; exact less_bytes a b (in_of_chk h1) (in_of_chk h2)⟩)
      · exact .inr (.inl ⟨h1, h2⟩)
    · exact .inl h1
  obtain ⟨r, hr⟩ : ∃ r, r = less a b := ⟨_, rfl⟩
  obtain ⟨r', hr'⟩ : ∃ r, r = less a b := ⟨_, rfl⟩
  have HL5 := Lib.hid (fun W => less_any a b W)
  rw [← hr'] at HL5 hc7
  obtain ⟨s, hs⟩ : ∃ s, s = less b a := ⟨_, rfl⟩
  obtain ⟨t, ht⟩ : ∃ t, t = less b c := ⟨_, rfl⟩
  obtain ⟨u, hu⟩ : ∃ u, u = less a c := ⟨_, rfl⟩
  obtain ⟨z1, hz1⟩ : ∃ z, z = chk a := ⟨_, rfl⟩
  obtain ⟨z2, hz2⟩ : ∃ z, z = chk b := ⟨_, rfl⟩
  obtain ⟨p1, hp1⟩ : ∃ z, z = pb a := ⟨_, rfl⟩
  obtain ⟨p2, hp2⟩ : ∃ z, z = pb b := ⟨_, rfl⟩
  have hl1 : p1.length ≤ 6 := by rw [hp1]; exact pb_len a
  have hl2 : p2.length ≤ 6 := by rw [hp2]; exact pb_len b
  rw [← hr] at HL1 hc1 hc3
  rw [← hs] at HL2 hc1
  rw [← ht] at HL3 hc3
  rw [← hu] at HL4 hc3
  rw [← hz1] at HP1 hc7
  rw [← hz2] at HP2 hc7
  rw [← hp1] at HP1 hc7
  rw [← hp2] at HP2 hc7
  clear hr hr' hs ht hu hz1 hz2 hp1 hp2
  obtain ⟨w0, hw0, hbw, hlt, h0, h1, h2⟩ := boxes3 w a b c
  have hlt0 : w.heap.size < w0.heap.size := by omega
  have hlt1 : w.heap.size + 1 < w0.heap.size := by omega
  obtain ⟨ao, ad, ae, ac⟩ := a
  obtain ⟨bo, bd, be, bc⟩ := b
  obtain ⟨co, cd, ce, cc⟩ := c
  unfold idc at hw0 h0 h1 h2
  unfold idv at HL1 HL2 HL3 HL4 HL5 HP1 HP2 ⊢
  simp only at hw0 h0 h1 h2
  simp only [ne_eq, Mid.mk.injEq] at hc1
  have H0 := Lib.hid h0
  have H1 := Lib.hid h1
  have H2 := Lib.hid h2
  have HBW := Lib.hid hbw
  have HC3 := Lib.hid hc3
  have HC7 := Lib.hid hc7
  clear h0 h1 h2 hbw hc3 hc7
  go_enter Tryd.func3, Tryd.ntmps3
  go_wp2_with fail
  rw [← hw0]
  clear hw0
  rcases hc1 with ⟨⟨h1, h2, h3, h4⟩, rfl, rfl⟩ | ⟨hne, rfl, rfl⟩ | ⟨hne, rfl, rfl⟩
  case' inr.inl => rcases HC3.out with h3 | ⟨-, rfl⟩ | ⟨-, rfl, rfl⟩
  case' inl =>
    have HQ : Hid (∀ (α : Type) (x y : α), (if ao = bo then (if ad = bd then (if ae = be then (if ac = bc then x else y) else y) else y) else y) = x) := fun α x y => by
      rw [if_pos h1, if_pos h2, if_pos h3, if_pos h4]
    clear h1 h2 h3 h4
    refine Free.wp_seq (I := fun w' => Below w0.heap.size w0 w') (Gr := fun w1 w2 => Below w1.heap.size w1 w2) (by kernel_rfl) (by kernel_rfl) (Below.refl _ _).drew ?_
    refine Free.Seq.val ?_ (fun _ => Below.refl _ _) (fun a w1 hI hp => ?_) ?_
    rotate_left
    · have e3 := hp.slotV 3 (by kernel_rfl) rfl; simp at e3
      have i0 := (hI.cell (p := ⟨w.heap.size, 0, none⟩) hlt0).trans (cell_of_cells H0.out 0)
      have i1 := (hI.cell (p := ⟨w.heap.size, 1, none⟩) hlt0).trans (cell_of_cells H0.out 1)
      have i2 := (hI.cell (p := ⟨w.heap.size, 2, none⟩) hlt0).trans (cell_of_cells H0.out 2)
      have i3 := (hI.cell (p := ⟨w.heap.size, 3, none⟩) hlt0).trans (cell_of_cells H0.out 3)
      refine ⟨Free.want_none rfl, ?_⟩
      clear hp
      go_simp
      rfl
    refine Free.Seq.val ?_ (fun _ => Below.refl _ _) (fun a w1 hI hp => ?_) ?_
    rotate_left
    · have e4 := hp.slotV 4 (by kernel_rfl) rfl; simp at e4
      have j0 := (hI.cell (p := ⟨w.heap.size + 1, 0, none⟩) hlt1).trans (cell_of_cells H1.out 0)
      have j1 := (hI.cell (p := ⟨w.heap.size + 1, 1, none⟩) hlt1).trans (cell_of_cells H1.out 1)
      have j2 := (hI.cell (p := ⟨w.heap.size + 1, 2, none⟩) hlt1).trans (cell_of_cells H1.out 2)
      have j3 := (hI.cell (p := ⟨w.heap.size + 1, 3, none⟩) hlt1).trans (cell_of_cells H1.out 3)
      refine ⟨Free.want_none rfl, ?_⟩
      clear hp
      go_simp
      rfl
    refine Free.Seq.val ?_ (fun _ => Below.refl _ _) (fun a w1 hI hp => ?_) ?_
    rotate_left
    · have e11 := hp.backV 0 1 rfl rfl rfl rfl rfl; have e12 := hp.backV 1 0 rfl rfl rfl rfl rfl
      refine ⟨Free.want_none rfl, ?_⟩
      clear hp
      go_simp
      exact HQ.out _ _ _
    refine Free.Seq.val ?_ (fun _ => Below.refl _ _) (fun a w1 hI hp => ?_) ?_
    rotate_left
    · have e3 := hp.slotV 3 (by kernel_rfl) rfl; simp at e3
      have i0 := (hI.cell (p := ⟨w.heap.size, 0, none⟩) hlt0).trans (cell_of_cells H0.out 0)
      have i1 := (hI.cell (p := ⟨w.heap.size, 1, none⟩) hlt0).trans (cell_of_cells H0.out 1)
      have i2 := (hI.cell (p := ⟨w.heap.size, 2, none⟩) hlt0).trans (cell_of_cells H0.out 2)
      have i3 := (hI.cell (p := ⟨w.heap.size, 3, none⟩) hlt0).trans (cell_of_cells H0.out 3)
      refine ⟨Free.want_none rfl, ?_⟩
      clear hp
      go_simp
      rfl
    refine Free.Seq.val ?_ (fun _ => Below.refl _ _) (fun a w1 hI hp => ?_) ?_
    rotate_left
    · have e4 := hp.slotV 4 (by kernel_rfl) rfl; simp at e4
      have j0 := (hI.cell (p := ⟨w.heap.size + 1, 0, none⟩) hlt1).trans (cell_of_cells H1.out 0)
      have j1 := (hI.cell (p := ⟨w.heap.size + 1, 1, none⟩) hlt1).trans (cell_of_cells H1.out 1)
      have j2 := (hI.cell (p := ⟨w.heap.size + 1, 2, none⟩) hlt1).trans (cell_of_cells H1.out 2)
      have j3 := (hI.cell (p := ⟨w.heap.size + 1, 3, none⟩) hlt1).trans (cell_of_cells H1.out 3)
      refine ⟨Free.want_none rfl, ?_⟩
      clear hp
      go_simp
      rfl
    refine Free.Seq.call (T := Free.eqF (.bool false)) (fun _ _ _ h _ => h) (fun a w1 hI hp => ?_) ?_
    · have e14 := hp.backV 3 1 rfl rfl rfl rfl rfl; have e15 := hp.backV 4 0 rfl rfl rfl rfl rfl
      refine ⟨Free.want_none rfl, 10, #[(.agg #[.int .i64 ao, .int .i64 ad, .int .i64 ae, .int .i64 ac]), (.agg #[.int .i64 bo, .int .i64 bd, .int .i64 be, .int .i64 bc])], ?_, ?_⟩
      · clear hp
        go_simp
      · refine (HL1.out _).mono ?_
        rintro e w' ⟨rfl, hb⟩
        exact ⟨_, rfl, rfl, hb, hI.trans (hb.mono hI.size)⟩
    refine Free.Seq.val ?_ (fun _ => Below.refl _ _) (fun a w1 hI hp => ?_) ?_
    rotate_left
    · have e16 := hp.backV 5 0 rfl rfl rfl rfl rfl
      refine ⟨Free.want_none rfl, ?_⟩
      clear hp
      go_simp
      rfl
    refine Free.Seq.val ?_ (fun _ => Below.refl _ _) (fun a w1 hI hp => ?_) ?_
    rotate_left
    · have e17 := hp.backV 6 0 rfl rfl rfl rfl rfl
      refine ⟨Free.want_none rfl, ?_⟩
      clear hp
      go_simp
      rfl
    refine Free.Seq.val ?_ (fun _ => Below.refl _ _) (fun a w1 hI hp => ?_) ?_
    rotate_left
    · have e18 := hp.backV 7 0 rfl rfl rfl rfl rfl; have e4 := hp.slotV 4 (by kernel_rfl) rfl; simp at e4
      have j0 := (hI.cell (p := ⟨w.heap.size + 1, 0, none⟩) hlt1).trans (cell_of_cells H1.out 0)
      have j1 := (hI.cell (p := ⟨w.heap.size + 1, 1, none⟩) hlt1).trans (cell_of_cells H1.out 1)
      have j2 := (hI.cell (p := ⟨w.heap.size + 1, 2, none⟩) hlt1).trans (cell_of_cells H1.out 2)
      have j3 := (hI.cell (p := ⟨w.heap.size + 1, 3, none⟩) hlt1).trans (cell_of_cells H1.out 3)
      refine ⟨hp.want rfl rfl rfl e18, ?_⟩
      clear hp
      go_simp
      rfl
    refine Free.Seq.val ?_ (fun _ => Below.refl _ _) (fun a w1 hI hp => ?_) ?_
    rotate_left
    · have e18 := hp.backV 7 1 rfl rfl rfl rfl rfl; have e3 := hp.slotV 3 (by kernel_rfl) rfl; simp at e3
      have i0 := (hI.cell (p := ⟨w.heap.size, 0, none⟩) hlt0).trans (cell_of_cells H0.out 0)
      have i1 := (hI.cell (p := ⟨w.heap.size, 1, none⟩) hlt0).trans (cell_of_cells H0.out 1)
      have i2 := (hI.cell (p := ⟨w.heap.size, 2, none⟩) hlt0).trans (cell_of_cells H0.out 2)
      have i3 := (hI.cell (p := ⟨w.heap.size, 3, none⟩) hlt0).trans (cell_of_cells H0.out 3)
      refine ⟨hp.want rfl rfl rfl e18, ?_⟩
      clear hp
      go_simp
      rfl
    refine Free.Seq.call (T := Free.eqF (.bool false)) (fun _ _ _ h _ => h) (fun a w1 hI hp => ?_) ?_
    · have e18 := hp.backV 7 2 rfl rfl rfl rfl rfl; have e19 := hp.backV 8 1 rfl rfl rfl rfl rfl; have e20 := hp.backV 9 0 rfl rfl rfl rfl rfl
      refine ⟨hp.want rfl rfl rfl e18, 10, #[(.agg #[.int .i64 bo, .int .i64 bd, .int .i64 be, .int .i64 bc]), (.agg #[.int .i64 ao, .int .i64 ad, .int .i64 ae, .int .i64 ac])], ?_, ?_⟩
      · clear hp
        go_simp
      · refine (HL2.out _).mono ?_
        rintro e w' ⟨rfl, hb⟩
        exact ⟨_, rfl, rfl, hb, hI.trans (hb.mono hI.size)⟩
    refine Free.Seq.val ?_ (fun _ => Below.refl _ _) (fun a w1 hI hp => ?_) ?_
    rotate_left
    · have e18 := hp.backV 7 3 rfl rfl rfl rfl rfl; have e21 := hp.backV 10 0 rfl rfl rfl rfl rfl
      refine ⟨hp.want rfl rfl rfl e18, ?_⟩
      clear hp
      go_simp
      rfl
    refine Free.Seq.val ?_ (fun _ => Below.refl _ _) (fun a w1 hI hp => ?_) ?_
    rotate_left
    · have e18 := hp.backV 7 4 rfl rfl rfl rfl rfl; have e22 := hp.backV 11 0 rfl rfl rfl rfl rfl
      refine ⟨Free.want_none rfl, ?_⟩
      clear hp
      go_simp
      rfl
    refine Free.Seq.val ?_ (fun _ => Below.refl _ _) (fun a w1 hI hp => ?_) ?_
    rotate_left
    · have e13 := hp.backV 2 10 rfl rfl rfl rfl rfl; have e23 := hp.backV 12 0 rfl rfl rfl rfl rfl
      refine ⟨Free.want_none rfl, ?_⟩
      clear hp
      go_simp
      rfl
    refine Free.Seq.val ?_ (fun _ => Below.refl _ _) (fun a w1 hI hp => ?_) ?_
    rotate_left
    · have e24 := hp.backV 13 0 rfl rfl rfl rfl rfl
      refine ⟨Free.want_none rfl, ?_⟩
      clear hp
      go_simp
      rfl
    refine Free.Seq.val ?_ (fun _ => Below.refl _ _) (fun a w1 hI hp => ?_) ?_
    rotate_left
    · have e25 := hp.backV 14 0 rfl rfl rfl rfl rfl; have e3 := hp.slotV 3 (by kernel_rfl) rfl; simp at e3
      have i0 := (hI.cell (p := ⟨w.heap.size, 0, none⟩) hlt0).trans (cell_of_cells H0.out 0)
      have i1 := (hI.cell (p := ⟨w.heap.size, 1, none⟩) hlt0).trans (cell_of_cells H0.out 1)
      have i2 := (hI.cell (p := ⟨w.heap.size, 2, none⟩) hlt0).trans (cell_of_cells H0.out 2)
      have i3 := (hI.cell (p := ⟨w.heap.size, 3, none⟩) hlt0).trans (cell_of_cells H0.out 3)
      refine ⟨hp.want rfl rfl rfl e25, ?_⟩
      clear hp
      go_simp
      rfl
    refine Free.Seq.val ?_ (fun _ => Below.refl _ _) (fun a w1 hI hp => ?_) ?_
    rotate_left
    · have e25 := hp.backV 14 1 rfl rfl rfl rfl rfl; have e4 := hp.slotV 4 (by kernel_rfl) rfl; simp at e4
      have j0 := (hI.cell (p := ⟨w.heap.size + 1, 0, none⟩) hlt1).trans (cell_of_cells H1.out 0)
      have j1 := (hI.cell (p := ⟨w.heap.size + 1, 1, none⟩) hlt1).trans (cell_of_cells H1.out 1)
      have j2 := (hI.cell (p := ⟨w.heap.size + 1, 2, none⟩) hlt1).trans (cell_of_cells H1.out 2)
      have j3 := (hI.cell (p := ⟨w.heap.size + 1, 3, none⟩) hlt1).trans (cell_of_cells H1.out 3)
      refine ⟨hp.want rfl rfl rfl e25, ?_⟩
      clear hp
      go_simp
      rfl
    refine Free.Seq.call (T := Free.eqF (.bool false)) (fun _ _ _ h _ => h) (fun a w1 hI hp => ?_) ?_
    · have e25 := hp.backV 14 2 rfl rfl rfl rfl rfl; have e26 := hp.backV 15 1 rfl rfl rfl rfl rfl; have e27 := hp.backV 16 0 rfl rfl rfl rfl rfl
      refine ⟨hp.want rfl rfl rfl e25, 10, #[(.agg #[.int .i64 ao, .int .i64 ad, .int .i64 ae, .int .i64 ac]), (.agg #[.int .i64 bo, .int .i64 bd, .int .i64 be, .int .i64 bc])], ?_, ?_⟩
      · clear hp
        go_simp
      · refine (HL1.out _).mono ?_
        rintro e w' ⟨rfl, hb⟩
        exact ⟨_, rfl, rfl, hb, hI.trans (hb.mono hI.size)⟩
    refine Free.Seq.val ?_ (fun _ => Below.refl _ _) (fun a w1 hI hp => ?_) ?_
    rotate_left
    · have e25 := hp.backV 14 3 rfl rfl rfl rfl rfl; have e28 := hp.backV 17 0 rfl rfl rfl rfl rfl
      refine ⟨hp.want rfl rfl rfl e25, ?_⟩
      clear hp
      go_simp
      rfl
    refine Free.Seq.pass (fun a w1 hI hp => hp.pass rfl rfl rfl (hp.backV 18 0 rfl rfl rfl rfl rfl)) ?_
    refine Free.Seq.pass (fun a w1 hI hp => hp.pass rfl rfl rfl (hp.backV 18 1 rfl rfl rfl rfl rfl)) ?_
    refine Free.Seq.pass (fun a w1 hI hp => hp.pass rfl rfl rfl (hp.backV 18 2 rfl rfl rfl rfl rfl)) ?_
    refine Free.Seq.val ?_ (fun _ => Below.refl _ _) (fun a w1 hI hp => ?_) ?_
    rotate_left
    · have e25 := hp.backV 14 7 rfl rfl rfl rfl rfl; have e29 := hp.backV 18 3 rfl rfl rfl rfl rfl; have e32 := hp.backV 21 0 rfl rfl rfl rfl rfl
      refine ⟨hp.want rfl rfl rfl e25, ?_⟩
      clear hp
      go_simp
      rfl
    refine Free.Seq.val ?_ (fun _ => Below.refl _ _) (fun a w1 hI hp => ?_) ?_
    rotate_left
    · have e25 := hp.backV 14 8 rfl rfl rfl rfl rfl; have e33 := hp.backV 22 0 rfl rfl rfl rfl rfl
      refine ⟨Free.want_none rfl, ?_⟩
      clear hp
      go_simp
      rfl
    refine Free.Seq.done (by simp) (fun wz hIz => ?_)
    simp only [List.reverse_cons, List.reverse_nil, List.nil_append, List.cons_append, Free.All, Free.eqF, forall_eq]
    skip
    simp only [Free.putL, Act.put, List.setIfInBounds_toArray, List.set_cons_zero, List.set_cons_succ]
    have i0 := (hIz.cell (p := ⟨w.heap.size, 0, none⟩) hlt0).trans (cell_of_cells H0.out 0)
    have i1 := (hIz.cell (p := ⟨w.heap.size, 1, none⟩) hlt0).trans (cell_of_cells H0.out 1)
    have i2 := (hIz.cell (p := ⟨w.heap.size, 2, none⟩) hlt0).trans (cell_of_cells H0.out 2)
    have i3 := (hIz.cell (p := ⟨w.heap.size, 3, none⟩) hlt0).trans (cell_of_cells H0.out 3)
    have j0 := (hIz.cell (p := ⟨w.heap.size + 1, 0, none⟩) hlt1).trans (cell_of_cells H1.out 0)
    have j1 := (hIz.cell (p := ⟨w.heap.size + 1, 1, none⟩) hlt1).trans (cell_of_cells H1.out 1)
    have j2 := (hIz.cell (p := ⟨w.heap.size + 1, 2, none⟩) hlt1).trans (cell_of_cells H1.out 2)
    have j3 := (hIz.cell (p := ⟨w.heap.size + 1, 3, none⟩) hlt1).trans (cell_of_cells H1.out 3)
    go_wp2_with fail
    refine (HL1.out _).mono ?_
    rintro e wy ⟨rfl, hb⟩
    replace hIz := hIz.trans (hb.mono hIz.size)
    clear hb i0 i1 i2 i3 j0 j1 j2 j3
  case' inr.inr =>
    have HQ : Hid (∀ (α : Type) (x y : α), (if ao = bo then (if ad = bd then (if ae = be then (if ac = bc then x else y) else y) else y) else y) = y) := fun α x y => by
      by_cases h1 : ao = bo
      · by_cases h2 : ad = bd
        · by_cases h3 : ae = be
          · by_cases h4 : ac = bc
            · exact absurd ⟨h1, h2, h3, h4⟩ hne
            · rw [if_pos h1, if_pos h2, if_pos h3, if_neg h4]
          · rw [if_pos h1, if_pos h2, if_neg h3]
        · rw [if_pos h1, if_neg h2]
      · rw [if_neg h1]
    clear hne
    refine Free.wp_seq (I := fun w' => Below w0.heap.size w0 w') (Gr := fun w1 w2 => Below w1.heap.size w1 w2) (by kernel_rfl) (by kernel_rfl) (Below.refl _ _).drew ?_
    refine Free.Seq.val ?_ (fun _ => Below.refl _ _) (fun a w1 hI hp => ?_) ?_
    rotate_left
    · have e3 := hp.slotV 3 (by kernel_rfl) rfl; simp at e3
      have i0 := (hI.cell (p := ⟨w.heap.size, 0, none⟩) hlt0).trans (cell_of_cells H0.out 0)
      have i1 := (hI.cell (p := ⟨w.heap.size, 1, none⟩) hlt0).trans (cell_of_cells H0.out 1)
      have i2 := (hI.cell (p := ⟨w.heap.size, 2, none⟩) hlt0).trans (cell_of_cells H0.out 2)
      have i3 := (hI.cell (p := ⟨w.heap.size, 3, none⟩) hlt0).trans (cell_of_cells H0.out 3)
      refine ⟨Free.want_none rfl, ?_⟩
      clear hp
      go_simp
      rfl
    refine Free.Seq.val ?_ (fun _ => Below.refl _ _) (fun a w1 hI hp => ?_) ?_
    rotate_left
    · have e4 := hp.slotV 4 (by kernel_rfl) rfl; simp at e4
      have j0 := (hI.cell (p := ⟨w.heap.size + 1, 0, none⟩) hlt1).trans (cell_of_cells H1.out 0)
      have j1 := (hI.cell (p := ⟨w.heap.size + 1, 1, none⟩) hlt1).trans (cell_of_cells H1.out 1)
      have j2 := (hI.cell (p := ⟨w.heap.size + 1, 2, none⟩) hlt1).trans (cell_of_cells H1.out 2)
      have j3 := (hI.cell (p := ⟨w.heap.size + 1, 3, none⟩) hlt1).trans (cell_of_cells H1.out 3)
      refine ⟨Free.want_none rfl, ?_⟩
      clear hp
      go_simp
      rfl
    refine Free.Seq.val ?_ (fun _ => Below.refl _ _) (fun a w1 hI hp => ?_) ?_
    rotate_left
    · have e11 := hp.backV 0 1 rfl rfl rfl rfl rfl; have e12 := hp.backV 1 0 rfl rfl rfl rfl rfl
      refine ⟨Free.want_none rfl, ?_⟩
      clear hp
      go_simp
      exact HQ.out _ _ _
    refine Free.Seq.val ?_ (fun _ => Below.refl _ _) (fun a w1 hI hp => ?_) ?_
    rotate_left
    · have e3 := hp.slotV 3 (by kernel_rfl) rfl; simp at e3
      have i0 := (hI.cell (p := ⟨w.heap.size, 0, none⟩) hlt0).trans (cell_of_cells H0.out 0)
      have i1 := (hI.cell (p := ⟨w.heap.size, 1, none⟩) hlt0).trans (cell_of_cells H0.out 1)
      have i2 := (hI.cell (p := ⟨w.heap.size, 2, none⟩) hlt0).trans (cell_of_cells H0.out 2)
      have i3 := (hI.cell (p := ⟨w.heap.size, 3, none⟩) hlt0).trans (cell_of_cells H0.out 3)
      refine ⟨Free.want_none rfl, ?_⟩
      clear hp
      go_simp
      rfl
    refine Free.Seq.val ?_ (fun _ => Below.refl _ _) (fun a w1 hI hp => ?_) ?_
    rotate_left
    · have e4 := hp.slotV 4 (by kernel_rfl) rfl; simp at e4
      have j0 := (hI.cell (p := ⟨w.heap.size + 1, 0, none⟩) hlt1).trans (cell_of_cells H1.out 0)
      have j1 := (hI.cell (p := ⟨w.heap.size + 1, 1, none⟩) hlt1).trans (cell_of_cells H1.out 1)
      have j2 := (hI.cell (p := ⟨w.heap.size + 1, 2, none⟩) hlt1).trans (cell_of_cells H1.out 2)
      have j3 := (hI.cell (p := ⟨w.heap.size + 1, 3, none⟩) hlt1).trans (cell_of_cells H1.out 3)
      refine ⟨Free.want_none rfl, ?_⟩
      clear hp
      go_simp
      rfl
    refine Free.Seq.call (T := Free.eqF (.bool false)) (fun _ _ _ h _ => h) (fun a w1 hI hp => ?_) ?_
    · have e14 := hp.backV 3 1 rfl rfl rfl rfl rfl; have e15 := hp.backV 4 0 rfl rfl rfl rfl rfl
      refine ⟨Free.want_none rfl, 10, #[(.agg #[.int .i64 ao, .int .i64 ad, .int .i64 ae, .int .i64 ac]), (.agg #[.int .i64 bo, .int .i64 bd, .int .i64 be, .int .i64 bc])], ?_, ?_⟩
      · clear hp
        go_simp
      · refine (HL1.out _).mono ?_
        rintro e w' ⟨rfl, hb⟩
        exact ⟨_, rfl, rfl, hb, hI.trans (hb.mono hI.size)⟩
    refine Free.Seq.val ?_ (fun _ => Below.refl _ _) (fun a w1 hI hp => ?_) ?_
    rotate_left
    · have e16 := hp.backV 5 0 rfl rfl rfl rfl rfl
      refine ⟨Free.want_none rfl, ?_⟩
      clear hp
      go_simp
      rfl
    refine Free.Seq.val ?_ (fun _ => Below.refl _ _) (fun a w1 hI hp => ?_) ?_
    rotate_left
    · have e17 := hp.backV 6 0 rfl rfl rfl rfl rfl
      refine ⟨Free.want_none rfl, ?_⟩
      clear hp
      go_simp
      rfl
    refine Free.Seq.val ?_ (fun _ => Below.refl _ _) (fun a w1 hI hp => ?_) ?_
    rotate_left
    · have e18 := hp.backV 7 0 rfl rfl rfl rfl rfl; have e4 := hp.slotV 4 (by kernel_rfl) rfl; simp at e4
      have j0 := (hI.cell (p := ⟨w.heap.size + 1, 0, none⟩) hlt1).trans (cell_of_cells H1.out 0)
      have j1 := (hI.cell (p := ⟨w.heap.size + 1, 1, none⟩) hlt1).trans (cell_of_cells H1.out 1)
      have j2 := (hI.cell (p := ⟨w.heap.size + 1, 2, none⟩) hlt1).trans (cell_of_cells H1.out 2)
      have j3 := (hI.cell (p := ⟨w.heap.size + 1, 3, none⟩) hlt1).trans (cell_of_cells H1.out 3)
      refine ⟨hp.want rfl rfl rfl e18, ?_⟩
      clear hp
      go_simp
      rfl
    refine Free.Seq.val ?_ (fun _ => Below.refl _ _) (fun a w1 hI hp => ?_) ?_
    rotate_left
    · have e18 := hp.backV 7 1 rfl rfl rfl rfl rfl; have e3 := hp.slotV 3 (by kernel_rfl) rfl; simp at e3
      have i0 := (hI.cell (p := ⟨w.heap.size, 0, none⟩) hlt0).trans (cell_of_cells H0.out 0)
      have i1 := (hI.cell (p := ⟨w.heap.size, 1, none⟩) hlt0).trans (cell_of_cells H0.out 1)
      have i2 := (hI.cell (p := ⟨w.heap.size, 2, none⟩) hlt0).trans (cell_of_cells H0.out 2)
      have i3 := (hI.cell (p := ⟨w.heap.size, 3, none⟩) hlt0).trans (cell_of_cells H0.out 3)
      refine ⟨hp.want rfl rfl rfl e18, ?_⟩
      clear hp
      go_simp
      rfl
    refine Free.Seq.call (T := Free.eqF (.bool true)) (fun _ _ _ h _ => h) (fun a w1 hI hp => ?_) ?_
    · have e18 := hp.backV 7 2 rfl rfl rfl rfl rfl; have e19 := hp.backV 8 1 rfl rfl rfl rfl rfl; have e20 := hp.backV 9 0 rfl rfl rfl rfl rfl
      refine ⟨hp.want rfl rfl rfl e18, 10, #[(.agg #[.int .i64 bo, .int .i64 bd, .int .i64 be, .int .i64 bc]), (.agg #[.int .i64 ao, .int .i64 ad, .int .i64 ae, .int .i64 ac])], ?_, ?_⟩
      · clear hp
        go_simp
      · refine (HL2.out _).mono ?_
        rintro e w' ⟨rfl, hb⟩
        exact ⟨_, rfl, rfl, hb, hI.trans (hb.mono hI.size)⟩
    refine Free.Seq.val ?_ (fun _ => Below.refl _ _) (fun a w1 hI hp => ?_) ?_
    rotate_left
    · have e18 := hp.backV 7 3 rfl rfl rfl rfl rfl; have e21 := hp.backV 10 0 rfl rfl rfl rfl rfl
      refine ⟨hp.want rfl rfl rfl e18, ?_⟩
      clear hp
      go_simp
      rfl
    refine Free.Seq.val ?_ (fun _ => Below.refl _ _) (fun a w1 hI hp => ?_) ?_
    rotate_left
    · have e18 := hp.backV 7 4 rfl rfl rfl rfl rfl; have e22 := hp.backV 11 0 rfl rfl rfl rfl rfl
      refine ⟨Free.want_none rfl, ?_⟩
      clear hp
      go_simp
      rfl
    refine Free.Seq.val ?_ (fun _ => Below.refl _ _) (fun a w1 hI hp => ?_) ?_
    rotate_left
    · have e13 := hp.backV 2 10 rfl rfl rfl rfl rfl; have e23 := hp.backV 12 0 rfl rfl rfl rfl rfl
      refine ⟨Free.want_none rfl, ?_⟩
      clear hp
      go_simp
      rfl
    refine Free.Seq.val ?_ (fun _ => Below.refl _ _) (fun a w1 hI hp => ?_) ?_
    rotate_left
    · have e24 := hp.backV 13 0 rfl rfl rfl rfl rfl
      refine ⟨Free.want_none rfl, ?_⟩
      clear hp
      go_simp
      rfl
    refine Free.Seq.val ?_ (fun _ => Below.refl _ _) (fun a w1 hI hp => ?_) ?_
    rotate_left
    · have e25 := hp.backV 14 0 rfl rfl rfl rfl rfl; have e3 := hp.slotV 3 (by kernel_rfl) rfl; simp at e3
      have i0 := (hI.cell (p := ⟨w.heap.size, 0, none⟩) hlt0).trans (cell_of_cells H0.out 0)
      have i1 := (hI.cell (p := ⟨w.heap.size, 1, none⟩) hlt0).trans (cell_of_cells H0.out 1)
      have i2 := (hI.cell (p := ⟨w.heap.size, 2, none⟩) hlt0).trans (cell_of_cells H0.out 2)
      have i3 := (hI.cell (p := ⟨w.heap.size, 3, none⟩) hlt0).trans (cell_of_cells H0.out 3)
      refine ⟨hp.want rfl rfl rfl e25, ?_⟩
      clear hp
      go_simp
      rfl
    refine Free.Seq.val ?_ (fun _ => Below.refl _ _) (fun a w1 hI hp => ?_) ?_
    rotate_left
    · have e25 := hp.backV 14 1 rfl rfl rfl rfl rfl; have e4 := hp.slotV 4 (by kernel_rfl) rfl; simp at e4
      have j0 := (hI.cell (p := ⟨w.heap.size + 1, 0, none⟩) hlt1).trans (cell_of_cells H1.out 0)
      have j1 := (hI.cell (p := ⟨w.heap.size + 1, 1, none⟩) hlt1).trans (cell_of_cells H1.out 1)
      have j2 := (hI.cell (p := ⟨w.heap.size + 1, 2, none⟩) hlt1).trans (cell_of_cells H1.out 2)
      have j3 := (hI.cell (p := ⟨w.heap.size + 1, 3, none⟩) hlt1).trans (cell_of_cells H1.out 3)
      refine ⟨hp.want rfl rfl rfl e25, ?_⟩
      clear hp
      go_simp
      rfl
    refine Free.Seq.call (T := Free.eqF (.bool false)) (fun _ _ _ h _ => h) (fun a w1 hI hp => ?_) ?_
    · have e25 := hp.backV 14 2 rfl rfl rfl rfl rfl; have e26 := hp.backV 15 1 rfl rfl rfl rfl rfl; have e27 := hp.backV 16 0 rfl rfl rfl rfl rfl
      refine ⟨hp.want rfl rfl rfl e25, 10, #[(.agg #[.int .i64 ao, .int .i64 ad, .int .i64 ae, .int .i64 ac]), (.agg #[.int .i64 bo, .int .i64 bd, .int .i64 be, .int .i64 bc])], ?_, ?_⟩
      · clear hp
        go_simp
      · refine (HL1.out _).mono ?_
        rintro e w' ⟨rfl, hb⟩
        exact ⟨_, rfl, rfl, hb, hI.trans (hb.mono hI.size)⟩
    refine Free.Seq.val ?_ (fun _ => Below.refl _ _) (fun a w1 hI hp => ?_) ?_
    rotate_left
    · have e25 := hp.backV 14 3 rfl rfl rfl rfl rfl; have e28 := hp.backV 17 0 rfl rfl rfl rfl rfl
      refine ⟨hp.want rfl rfl rfl e25, ?_⟩
      clear hp
      go_simp
      rfl
    refine Free.Seq.pass (fun a w1 hI hp => hp.pass rfl rfl rfl (hp.backV 18 0 rfl rfl rfl rfl rfl)) ?_
    refine Free.Seq.pass (fun a w1 hI hp => hp.pass rfl rfl rfl (hp.backV 18 1 rfl rfl rfl rfl rfl)) ?_
    refine Free.Seq.pass (fun a w1 hI hp => hp.pass rfl rfl rfl (hp.backV 18 2 rfl rfl rfl rfl rfl)) ?_
    refine Free.Seq.val ?_ (fun _ => Below.refl _ _) (fun a w1 hI hp => ?_) ?_
    rotate_left
    · have e25 := hp.backV 14 7 rfl rfl rfl rfl rfl; have e29 := hp.backV 18 3 rfl rfl rfl rfl rfl; have e32 := hp.backV 21 0 rfl rfl rfl rfl rfl
      refine ⟨hp.want rfl rfl rfl e25, ?_⟩
      clear hp
      go_simp
      rfl
    refine Free.Seq.val ?_ (fun _ => Below.refl _ _) (fun a w1 hI hp => ?_) ?_
    rotate_left
    · have e25 := hp.backV 14 8 rfl rfl rfl rfl rfl; have e33 := hp.backV 22 0 rfl rfl rfl rfl rfl
      refine ⟨Free.want_none rfl, ?_⟩
      clear hp
      go_simp
      rfl
    refine Free.Seq.done (by simp) (fun wz hIz => ?_)
    simp only [List.reverse_cons, List.reverse_nil, List.nil_append, List.cons_append, Free.All, Free.eqF, forall_eq]
    skip
    simp only [Free.putL, Act.put, List.setIfInBounds_toArray, List.set_cons_zero, List.set_cons_succ]
    have i0 := (hIz.cell (p := ⟨w.heap.size, 0, none⟩) hlt0).trans (cell_of_cells H0.out 0)
    have i1 := (hIz.cell (p := ⟨w.heap.size, 1, none⟩) hlt0).trans (cell_of_cells H0.out 1)
    have i2 := (hIz.cell (p := ⟨w.heap.size, 2, none⟩) hlt0).trans (cell_of_cells H0.out 2)
    have i3 := (hIz.cell (p := ⟨w.heap.size, 3, none⟩) hlt0).trans (cell_of_cells H0.out 3)
    have j0 := (hIz.cell (p := ⟨w.heap.size + 1, 0, none⟩) hlt1).trans (cell_of_cells H1.out 0)
    have j1 := (hIz.cell (p := ⟨w.heap.size + 1, 1, none⟩) hlt1).trans (cell_of_cells H1.out 1)
    have j2 := (hIz.cell (p := ⟨w.heap.size + 1, 2, none⟩) hlt1).trans (cell_of_cells H1.out 2)
    have j3 := (hIz.cell (p := ⟨w.heap.size + 1, 3, none⟩) hlt1).trans (cell_of_cells H1.out 3)
    go_wp2_with fail
    refine (HL1.out _).mono ?_
    rintro e wy ⟨rfl, hb⟩
    replace hIz := hIz.trans (hb.mono hIz.size)
    clear hb i0 i1 i2 i3 j0 j1 j2 j3
  case' inr.inl.inl => exact absurd h3 (by decide)
  case' inr.inl.inr.inl =>
    have HQ : Hid (∀ (α : Type) (x y : α), (if ao = bo then (if ad = bd then (if ae = be then (if ac = bc then x else y) else y) else y) else y) = y) := fun α x y => by
      by_cases h1 : ao = bo
      · by_cases h2 : ad = bd
        · by_cases h3 : ae = be
          · by_cases h4 : ac = bc
            · exact absurd ⟨h1, h2, h3, h4⟩ hne
            · rw [if_pos h1, if_pos h2, if_pos h3, if_neg h4]
          · rw [if_pos h1, if_pos h2, if_neg h3]
        · rw [if_pos h1, if_neg h2]
      · rw [if_neg h1]
    clear hne
    refine Free.wp_seq (I := fun w' => Below w0.heap.size w0 w') (Gr := fun w1 w2 => Below w1.heap.size w1 w2) (by kernel_rfl) (by kernel_rfl) (Below.refl _ _).drew ?_
    refine Free.Seq.val ?_ (fun _ => Below.refl _ _) (fun a w1 hI hp => ?_) ?_
    rotate_left
    · have e3 := hp.slotV 3 (by kernel_rfl) rfl; simp at e3
      have i0 := (hI.cell (p := ⟨w.heap.size, 0, none⟩) hlt0).trans (cell_of_cells H0.out 0)
      have i1 := (hI.cell (p := ⟨w.heap.size, 1, none⟩) hlt0).trans (cell_of_cells H0.out 1)
      have i2 := (hI.cell (p := ⟨w.heap.size, 2, none⟩) hlt0).trans (cell_of_cells H0.out 2)
      have i3 := (hI.cell (p := ⟨w.heap.size, 3, none⟩) hlt0).trans (cell_of_cells H0.out 3)
      refine ⟨Free.want_none rfl, ?_⟩
      clear hp
      go_simp
      rfl
    refine Free.Seq.val ?_ (fun _ => Below.refl _ _) (fun a w1 hI hp => ?_) ?_
    rotate_left
    · have e4 := hp.slotV 4 (by kernel_rfl) rfl; simp at e4
      have j0 := (hI.cell (p := ⟨w.heap.size + 1, 0, none⟩) hlt1).trans (cell_of_cells H1.out 0)
      have j1 := (hI.cell (p := ⟨w.heap.size + 1, 1, none⟩) hlt1).trans (cell_of_cells H1.out 1)
      have j2 := (hI.cell (p := ⟨w.heap.size + 1, 2, none⟩) hlt1).trans (cell_of_cells H1.out 2)
      have j3 := (hI.cell (p := ⟨w.heap.size + 1, 3, none⟩) hlt1).trans (cell_of_cells H1.out 3)
      refine ⟨Free.want_none rfl, ?_⟩
      clear hp
      go_simp
      rfl
    refine Free.Seq.val ?_ (fun _ => Below.refl _ _) (fun a w1 hI hp => ?_) ?_
    rotate_left
    · have e11 := hp.backV 0 1 rfl rfl rfl rfl rfl; have e12 := hp.backV 1 0 rfl rfl rfl rfl rfl
      refine ⟨Free.want_none rfl, ?_⟩
      clear hp
      go_simp
      exact HQ.out _ _ _
    refine Free.Seq.val ?_ (fun _ => Below.refl _ _) (fun a w1 hI hp => ?_) ?_
    rotate_left
    · have e3 := hp.slotV 3 (by kernel_rfl) rfl; simp at e3
      have i0 := (hI.cell (p := ⟨w.heap.size, 0, none⟩) hlt0).trans (cell_of_cells H0.out 0)
      have i1 := (hI.cell (p := ⟨w.heap.size, 1, none⟩) hlt0).trans (cell_of_cells H0.out 1)
      have i2 := (hI.cell (p := ⟨w.heap.size, 2, none⟩) hlt0).trans (cell_of_cells H0.out 2)
      have i3 := (hI.cell (p := ⟨w.heap.size, 3, none⟩) hlt0).trans (cell_of_cells H0.out 3)
      refine ⟨Free.want_none rfl, ?_⟩
      clear hp
      go_simp
      rfl
    refine Free.Seq.val ?_ (fun _ => Below.refl _ _) (fun a w1 hI hp => ?_) ?_
    rotate_left
    · have e4 := hp.slotV 4 (by kernel_rfl) rfl; simp at e4
      have j0 := (hI.cell (p := ⟨w.heap.size + 1, 0, none⟩) hlt1).trans (cell_of_cells H1.out 0)
      have j1 := (hI.cell (p := ⟨w.heap.size + 1, 1, none⟩) hlt1).trans (cell_of_cells H1.out 1)
      have j2 := (hI.cell (p := ⟨w.heap.size + 1, 2, none⟩) hlt1).trans (cell_of_cells H1.out 2)
      have j3 := (hI.cell (p := ⟨w.heap.size + 1, 3, none⟩) hlt1).trans (cell_of_cells H1.out 3)
      refine ⟨Free.want_none rfl, ?_⟩
      clear hp
      go_simp
      rfl
    refine Free.Seq.call (T := Free.eqF (.bool true)) (fun _ _ _ h _ => h) (fun a w1 hI hp => ?_) ?_
    · have e14 := hp.backV 3 1 rfl rfl rfl rfl rfl; have e15 := hp.backV 4 0 rfl rfl rfl rfl rfl
      refine ⟨Free.want_none rfl, 10, #[(.agg #[.int .i64 ao, .int .i64 ad, .int .i64 ae, .int .i64 ac]), (.agg #[.int .i64 bo, .int .i64 bd, .int .i64 be, .int .i64 bc])], ?_, ?_⟩
      · clear hp
        go_simp
      · refine (HL1.out _).mono ?_
        rintro e w' ⟨rfl, hb⟩
        exact ⟨_, rfl, rfl, hb, hI.trans (hb.mono hI.size)⟩
    refine Free.Seq.val ?_ (fun _ => Below.refl _ _) (fun a w1 hI hp => ?_) ?_
    rotate_left
    · have e16 := hp.backV 5 0 rfl rfl rfl rfl rfl
      refine ⟨Free.want_none rfl, ?_⟩
      clear hp
      go_simp
      rfl
    refine Free.Seq.val ?_ (fun _ => Below.refl _ _) (fun a w1 hI hp => ?_) ?_
    rotate_left
    · have e17 := hp.backV 6 0 rfl rfl rfl rfl rfl
      refine ⟨Free.want_none rfl, ?_⟩
      clear hp
      go_simp
      rfl
    refine Free.Seq.pass (fun a w1 hI hp => hp.pass rfl rfl rfl (hp.backV 7 0 rfl rfl rfl rfl rfl)) ?_
    refine Free.Seq.pass (fun a w1 hI hp => hp.pass rfl rfl rfl (hp.backV 7 1 rfl rfl rfl rfl rfl)) ?_
    refine Free.Seq.pass (fun a w1 hI hp => hp.pass rfl rfl rfl (hp.backV 7 2 rfl rfl rfl rfl rfl)) ?_
    refine Free.Seq.pass (fun a w1 hI hp => hp.pass rfl rfl rfl (hp.backV 7 3 rfl rfl rfl rfl rfl)) ?_
    refine Free.Seq.val ?_ (fun _ => Below.refl _ _) (fun a w1 hI hp => ?_) ?_
    rotate_left
    · have e18 := hp.backV 7 4 rfl rfl rfl rfl rfl; have e22 := hp.backV 11 0 rfl rfl rfl rfl rfl
      refine ⟨Free.want_none rfl, ?_⟩
      clear hp
      go_simp
      rfl
    refine Free.Seq.val ?_ (fun _ => Below.refl _ _) (fun a w1 hI hp => ?_) ?_
    rotate_left
    · have e13 := hp.backV 2 10 rfl rfl rfl rfl rfl; have e23 := hp.backV 12 0 rfl rfl rfl rfl rfl
      refine ⟨Free.want_none rfl, ?_⟩
      clear hp
      go_simp
      rfl
    refine Free.Seq.val ?_ (fun _ => Below.refl _ _) (fun a w1 hI hp => ?_) ?_
    rotate_left
    · have e24 := hp.backV 13 0 rfl rfl rfl rfl rfl
      refine ⟨Free.want_none rfl, ?_⟩
      clear hp
      go_simp
      rfl
    refine Free.Seq.val ?_ (fun _ => Below.refl _ _) (fun a w1 hI hp => ?_) ?_
    rotate_left
    · have e25 := hp.backV 14 0 rfl rfl rfl rfl rfl; have e3 := hp.slotV 3 (by kernel_rfl) rfl; simp at e3
      have i0 := (hI.cell (p := ⟨w.heap.size, 0, none⟩) hlt0).trans (cell_of_cells H0.out 0)
      have i1 := (hI.cell (p := ⟨w.heap.size, 1, none⟩) hlt0).trans (cell_of_cells H0.out 1)
      have i2 := (hI.cell (p := ⟨w.heap.size, 2, none⟩) hlt0).trans (cell_of_cells H0.out 2)
      have i3 := (hI.cell (p := ⟨w.heap.size, 3, none⟩) hlt0).trans (cell_of_cells H0.out 3)
      refine ⟨hp.want rfl rfl rfl e25, ?_⟩
      clear hp
      go_simp
      rfl
    refine Free.Seq.val ?_ (fun _ => Below.refl _ _) (fun a w1 hI hp => ?_) ?_
    rotate_left
    · have e25 := hp.backV 14 1 rfl rfl rfl rfl rfl; have e4 := hp.slotV 4 (by kernel_rfl) rfl; simp at e4
      have j0 := (hI.cell (p := ⟨w.heap.size + 1, 0, none⟩) hlt1).trans (cell_of_cells H1.out 0)
      have j1 := (hI.cell (p := ⟨w.heap.size + 1, 1, none⟩) hlt1).trans (cell_of_cells H1.out 1)
      have j2 := (hI.cell (p := ⟨w.heap.size + 1, 2, none⟩) hlt1).trans (cell_of_cells H1.out 2)
      have j3 := (hI.cell (p := ⟨w.heap.size + 1, 3, none⟩) hlt1).trans (cell_of_cells H1.out 3)
      refine ⟨hp.want rfl rfl rfl e25, ?_⟩
      clear hp
      go_simp
      rfl
    refine Free.Seq.call (T := Free.eqF (.bool true)) (fun _ _ _ h _ => h) (fun a w1 hI hp => ?_) ?_
    · have e25 := hp.backV 14 2 rfl rfl rfl rfl rfl; have e26 := hp.backV 15 1 rfl rfl rfl rfl rfl; have e27 := hp.backV 16 0 rfl rfl rfl rfl rfl
      refine ⟨hp.want rfl rfl rfl e25, 10, #[(.agg #[.int .i64 ao, .int .i64 ad, .int .i64 ae, .int .i64 ac]), (.agg #[.int .i64 bo, .int .i64 bd, .int .i64 be, .int .i64 bc])], ?_, ?_⟩
      · clear hp
        go_simp
      · refine (HL1.out _).mono ?_
        rintro e w' ⟨rfl, hb⟩
        exact ⟨_, rfl, rfl, hb, hI.trans (hb.mono hI.size)⟩
    refine Free.Seq.val ?_ (fun _ => Below.refl _ _) (fun a w1 hI hp => ?_) ?_
    rotate_left
    · have e25 := hp.backV 14 3 rfl rfl rfl rfl rfl; have e28 := hp.backV 17 0 rfl rfl rfl rfl rfl
      refine ⟨hp.want rfl rfl rfl e25, ?_⟩
      clear hp
      go_simp
      rfl
    refine Free.Seq.val ?_ (fun _ => Below.refl _ _) (fun a w1 hI hp => ?_) ?_
    rotate_left
    · have e29 := hp.backV 18 0 rfl rfl rfl rfl rfl; have e4 := hp.slotV 4 (by kernel_rfl) rfl; simp at e4
      have j0 := (hI.cell (p := ⟨w.heap.size + 1, 0, none⟩) hlt1).trans (cell_of_cells H1.out 0)
      have j1 := (hI.cell (p := ⟨w.heap.size + 1, 1, none⟩) hlt1).trans (cell_of_cells H1.out 1)
      have j2 := (hI.cell (p := ⟨w.heap.size + 1, 2, none⟩) hlt1).trans (cell_of_cells H1.out 2)
      have j3 := (hI.cell (p := ⟨w.heap.size + 1, 3, none⟩) hlt1).trans (cell_of_cells H1.out 3)
      refine ⟨hp.want rfl rfl rfl e29, ?_⟩
      clear hp
      go_simp
      rfl
    refine Free.Seq.val ?_ (fun _ => Below.refl _ _) (fun a w1 hI hp => ?_) ?_
    rotate_left
    · have e29 := hp.backV 18 1 rfl rfl rfl rfl rfl; have e3 := hp.slotV 3 (by kernel_rfl) rfl; simp at e3
      have i0 := (hI.cell (p := ⟨w.heap.size, 0, none⟩) hlt0).trans (cell_of_cells H0.out 0)
      have i1 := (hI.cell (p := ⟨w.heap.size, 1, none⟩) hlt0).trans (cell_of_cells H0.out 1)
      have i2 := (hI.cell (p := ⟨w.heap.size, 2, none⟩) hlt0).trans (cell_of_cells H0.out 2)
      have i3 := (hI.cell (p := ⟨w.heap.size, 3, none⟩) hlt0).trans (cell_of_cells H0.out 3)
      refine ⟨hp.want rfl rfl rfl e29, ?_⟩
      clear hp
      go_simp
      rfl
    refine Free.Seq.call (T := Free.eqF (.bool false)) (fun _ _ _ h _ => h) (fun a w1 hI hp => ?_) ?_
    · have e29 := hp.backV 18 2 rfl rfl rfl rfl rfl; have e30 := hp.backV 19 1 rfl rfl rfl rfl rfl; have e31 := hp.backV 20 0 rfl rfl rfl rfl rfl
      refine ⟨hp.want rfl rfl rfl e29, 10, #[(.agg #[.int .i64 bo, .int .i64 bd, .int .i64 be, .int .i64 bc]), (.agg #[.int .i64 ao, .int .i64 ad, .int .i64 ae, .int .i64 ac])], ?_, ?_⟩
      · clear hp
        go_simp
      · refine (HL2.out _).mono ?_
        rintro e w' ⟨rfl, hb⟩
        exact ⟨_, rfl, rfl, hb, hI.trans (hb.mono hI.size)⟩
    refine Free.Seq.val ?_ (fun _ => Below.refl _ _) (fun a w1 hI hp => ?_) ?_
    rotate_left
    · have e25 := hp.backV 14 7 rfl rfl rfl rfl rfl; have e29 := hp.backV 18 3 rfl rfl rfl rfl rfl; have e32 := hp.backV 21 0 rfl rfl rfl rfl rfl
      refine ⟨hp.want rfl rfl rfl e25, ?_⟩
      clear hp
      go_simp
      rfl
    refine Free.Seq.val ?_ (fun _ => Below.refl _ _) (fun a w1 hI hp => ?_) ?_
    rotate_left
    · have e25 := hp.backV 14 8 rfl rfl rfl rfl rfl; have e33 := hp.backV 22 0 rfl rfl rfl rfl rfl
      refine ⟨Free.want_none rfl, ?_⟩
      clear hp
      go_simp
      rfl
    refine Free.Seq.done (by simp) (fun wz hIz => ?_)
    simp only [List.reverse_cons, List.reverse_nil, List.nil_append, List.cons_append, Free.All, Free.eqF, forall_eq]
    skip
    simp only [Free.putL, Act.put, List.setIfInBounds_toArray, List.set_cons_zero, List.set_cons_succ]
    have i0 := (hIz.cell (p := ⟨w.heap.size, 0, none⟩) hlt0).trans (cell_of_cells H0.out 0)
    have i1 := (hIz.cell (p := ⟨w.heap.size, 1, none⟩) hlt0).trans (cell_of_cells H0.out 1)
    have i2 := (hIz.cell (p := ⟨w.heap.size, 2, none⟩) hlt0).trans (cell_of_cells H0.out 2)
    have i3 := (hIz.cell (p := ⟨w.heap.size, 3, none⟩) hlt0).trans (cell_of_cells H0.out 3)
    have j0 := (hIz.cell (p := ⟨w.heap.size + 1, 0, none⟩) hlt1).trans (cell_of_cells H1.out 0)
    have j1 := (hIz.cell (p := ⟨w.heap.size + 1, 1, none⟩) hlt1).trans (cell_of_cells H1.out 1)
    have j2 := (hIz.cell (p := ⟨w.heap.size + 1, 2, none⟩) hlt1).trans (cell_of_cells H1.out 2)
    have j3 := (hIz.cell (p := ⟨w.heap.size + 1, 3, none⟩) hlt1).trans (cell_of_cells H1.out 3)
    go_wp2_with fail
    refine (HL1.out _).mono ?_
    rintro e wy ⟨rfl, hb⟩
    replace hIz := hIz.trans (hb.mono hIz.size)
    clear hb i0 i1 i2 i3 j0 j1 j2 j3
    have j0 := (hIz.cell (p := ⟨w.heap.size + 1, 0, none⟩) hlt1).trans (cell_of_cells H1.out 0)
    have j1 := (hIz.cell (p := ⟨w.heap.size + 1, 1, none⟩) hlt1).trans (cell_of_cells H1.out 1)
    have j2 := (hIz.cell (p := ⟨w.heap.size + 1, 2, none⟩) hlt1).trans (cell_of_cells H1.out 2)
    have j3 := (hIz.cell (p := ⟨w.heap.size + 1, 3, none⟩) hlt1).trans (cell_of_cells H1.out 3)
    have k0 := (hIz.cell (p := ⟨w.heap.size + 2, 0, none⟩) hlt).trans (cell_of_cells H2.out 0)
    have k1 := (hIz.cell (p := ⟨w.heap.size + 2, 1, none⟩) hlt).trans (cell_of_cells H2.out 1)
    have k2 := (hIz.cell (p := ⟨w.heap.size + 2, 2, none⟩) hlt).trans (cell_of_cells H2.out 2)
    have k3 := (hIz.cell (p := ⟨w.heap.size + 2, 3, none⟩) hlt).trans (cell_of_cells H2.out 3)
    go_wp2_with fail
    refine (HL3.out _).mono ?_
    rintro e wy ⟨rfl, hb⟩
    replace hIz := hIz.trans (hb.mono hIz.size)
    clear hb j0 j1 j2 j3 k0 k1 k2 k3
  case' inr.inl.inr.inr =>
    have HQ : Hid (∀ (α : Type) (x y : α), (if ao = bo then (if ad = bd then (if ae = be then (if ac = bc then x else y) else y) else y) else y) = y) := fun α x y => by
      by_cases h1 : ao = bo
      · by_cases h2 : ad = bd
        · by_cases h3 : ae = be
          · by_cases h4 : ac = bc
            · exact absurd ⟨h1, h2, h3, h4⟩ hne
            · rw [if_pos h1, if_pos h2, if_pos h3, if_neg h4]
          · rw [if_pos h1, if_pos h2, if_neg h3]
        · rw [if_pos h1, if_neg h2]
      · rw [if_neg h1]
    clear hne
    refine Free.wp_seq (I := fun w' => Below w0.heap.size w0 w') (Gr := fun w1 w2 => Below w1.heap.size w1 w2) (by kernel_rfl) (by kernel_rfl) (Below.refl _ _).drew ?_
    refine Free.Seq.val ?_ (fun _ => Below.refl _ _) (fun a w1 hI hp => ?_) ?_
    rotate_left
    · have e3 := hp.slotV 3 (by kernel_rfl) rfl; simp at e3
      have i0 := (hI.cell (p := ⟨w.heap.size, 0, none⟩) hlt0).trans (cell_of_cells H0.out 0)
      have i1 := (hI.cell (p := ⟨w.heap.size, 1, none⟩) hlt0).trans (cell_of_cells H0.out 1)
      have i2 := (hI.cell (p := ⟨w.heap.size, 2, none⟩) hlt0).trans (cell_of_cells H0.out 2)
      have i3 := (hI.cell (p := ⟨w.heap.size, 3, none⟩) hlt0).trans (cell_of_cells H0.out 3)
      refine ⟨Free.want_none rfl, ?_⟩
      clear hp
      go_simp
      rfl
    refine Free.Seq.val ?_ (fun _ => Below.refl _ _) (fun a w1 hI hp => ?_) ?_
    rotate_left
    · have e4 := hp.slotV 4 (by kernel_rfl) rfl; simp at e4
      have j0 := (hI.cell (p := ⟨w.heap.size + 1, 0, none⟩) hlt1).trans (cell_of_cells H1.out 0)
      have j1 := (hI.cell (p := ⟨w.heap.size + 1, 1, none⟩) hlt1).trans (cell_of_cells H1.out 1)
      have j2 := (hI.cell (p := ⟨w.heap.size + 1, 2, none⟩) hlt1).trans (cell_of_cells H1.out 2)
      have j3 := (hI.cell (p := ⟨w.heap.size + 1, 3, none⟩) hlt1).trans (cell_of_cells H1.out 3)
      refine ⟨Free.want_none rfl, ?_⟩
      clear hp
      go_simp
      rfl
    refine Free.Seq.val ?_ (fun _ => Below.refl _ _) (fun a w1 hI hp => ?_) ?_
    rotate_left
    · have e11 := hp.backV 0 1 rfl rfl rfl rfl rfl; have e12 := hp.backV 1 0 rfl rfl rfl rfl rfl
      refine ⟨Free.want_none rfl, ?_⟩
      clear hp
      go_simp
      exact HQ.out _ _ _
    refine Free.Seq.val ?_ (fun _ => Below.refl _ _) (fun a w1 hI hp => ?_) ?_
    rotate_left
    · have e3 := hp.slotV 3 (by kernel_rfl) rfl; simp at e3
      have i0 := (hI.cell (p := ⟨w.heap.size, 0, none⟩) hlt0).trans (cell_of_cells H0.out 0)
      have i1 := (hI.cell (p := ⟨w.heap.size, 1, none⟩) hlt0).trans (cell_of_cells H0.out 1)
      have i2 := (hI.cell (p := ⟨w.heap.size, 2, none⟩) hlt0).trans (cell_of_cells H0.out 2)
      have i3 := (hI.cell (p := ⟨w.heap.size, 3, none⟩) hlt0).trans (cell_of_cells H0.out 3)
      refine ⟨Free.want_none rfl, ?_⟩
      clear hp
      go_simp
      rfl
    refine Free.Seq.val ?_ (fun _ => Below.refl _ _) (fun a w1 hI hp => ?_) ?_
    rotate_left
    · have e4 := hp.slotV 4 (by kernel_rfl) rfl; simp at e4
      have j0 := (hI.cell (p := ⟨w.heap.size + 1, 0, none⟩) hlt1).trans (cell_of_cells H1.out 0)
      have j1 := (hI.cell (p := ⟨w.heap.size + 1, 1, none⟩) hlt1).trans (cell_of_cells H1.out 1)
      have j2 := (hI.cell (p := ⟨w.heap.size + 1, 2, none⟩) hlt1).trans (cell_of_cells H1.out 2)
      have j3 := (hI.cell (p := ⟨w.heap.size + 1, 3, none⟩) hlt1).trans (cell_of_cells H1.out 3)
      refine ⟨Free.want_none rfl, ?_⟩
      clear hp
      go_simp
      rfl
    refine Free.Seq.call (T := Free.eqF (.bool true)) (fun _ _ _ h _ => h) (fun a w1 hI hp => ?_) ?_
    · have e14 := hp.backV 3 1 rfl rfl rfl rfl rfl; have e15 := hp.backV 4 0 rfl rfl rfl rfl rfl
      refine ⟨Free.want_none rfl, 10, #[(.agg #[.int .i64 ao, .int .i64 ad, .int .i64 ae, .int .i64 ac]), (.agg #[.int .i64 bo, .int .i64 bd, .int .i64 be, .int .i64 bc])], ?_, ?_⟩
      · clear hp
        go_simp
      · refine (HL1.out _).mono ?_
        rintro e w' ⟨rfl, hb⟩
        exact ⟨_, rfl, rfl, hb, hI.trans (hb.mono hI.size)⟩
    refine Free.Seq.val ?_ (fun _ => Below.refl _ _) (fun a w1 hI hp => ?_) ?_
    rotate_left
    · have e16 := hp.backV 5 0 rfl rfl rfl rfl rfl
      refine ⟨Free.want_none rfl, ?_⟩
      clear hp
      go_simp
      rfl
    refine Free.Seq.val ?_ (fun _ => Below.refl _ _) (fun a w1 hI hp => ?_) ?_
    rotate_left
    · have e17 := hp.backV 6 0 rfl rfl rfl rfl rfl
      refine ⟨Free.want_none rfl, ?_⟩
      clear hp
      go_simp
      rfl
    refine Free.Seq.pass (fun a w1 hI hp => hp.pass rfl rfl rfl (hp.backV 7 0 rfl rfl rfl rfl rfl)) ?_
    refine Free.Seq.pass (fun a w1 hI hp => hp.pass rfl rfl rfl (hp.backV 7 1 rfl rfl rfl rfl rfl)) ?_
    refine Free.Seq.pass (fun a w1 hI hp => hp.pass rfl rfl rfl (hp.backV 7 2 rfl rfl rfl rfl rfl)) ?_
    refine Free.Seq.pass (fun a w1 hI hp => hp.pass rfl rfl rfl (hp.backV 7 3 rfl rfl rfl rfl rfl)) ?_
    refine Free.Seq.val ?_ (fun _ => Below.refl _ _) (fun a w1 hI hp => ?_) ?_
    rotate_left
    · have e18 := hp.backV 7 4 rfl rfl rfl rfl rfl; have e22 := hp.backV 11 0 rfl rfl rfl rfl rfl
      refine ⟨Free.want_none rfl, ?_⟩
      clear hp
      go_simp
      rfl
    refine Free.Seq.val ?_ (fun _ => Below.refl _ _) (fun a w1 hI hp => ?_) ?_
    rotate_left
    · have e13 := hp.backV 2 10 rfl rfl rfl rfl rfl; have e23 := hp.backV 12 0 rfl rfl rfl rfl rfl
      refine ⟨Free.want_none rfl, ?_⟩
      clear hp
      go_simp
      rfl
    refine Free.Seq.val ?_ (fun _ => Below.refl _ _) (fun a w1 hI hp => ?_) ?_
    rotate_left
    · have e24 := hp.backV 13 0 rfl rfl rfl rfl rfl
      refine ⟨Free.want_none rfl, ?_⟩
      clear hp
      go_simp
      rfl
    refine Free.Seq.val ?_ (fun _ => Below.refl _ _) (fun a w1 hI hp => ?_) ?_
    rotate_left
    · have e25 := hp.backV 14 0 rfl rfl rfl rfl rfl; have e3 := hp.slotV 3 (by kernel_rfl) rfl; simp at e3
      have i0 := (hI.cell (p := ⟨w.heap.size, 0, none⟩) hlt0).trans (cell_of_cells H0.out 0)
      have i1 := (hI.cell (p := ⟨w.heap.size, 1, none⟩) hlt0).trans (cell_of_cells H0.out 1)
      have i2 := (hI.cell (p := ⟨w.heap.size, 2, none⟩) hlt0).trans (cell_of_cells H0.out 2)
      have i3 := (hI.cell (p := ⟨w.heap.size, 3, none⟩) hlt0).trans (cell_of_cells H0.out 3)
      refine ⟨hp.want rfl rfl rfl e25, ?_⟩
      clear hp
      go_simp
      rfl
    refine Free.Seq.val ?_ (fun _ => Below.refl _ _) (fun a w1 hI hp => ?_) ?_
    rotate_left
    · have e25 := hp.backV 14 1 rfl rfl rfl rfl rfl; have e4 := hp.slotV 4 (by kernel_rfl) rfl; simp at e4
      have j0 := (hI.cell (p := ⟨w.heap.size + 1, 0, none⟩) hlt1).trans (cell_of_cells H1.out 0)
      have j1 := (hI.cell (p := ⟨w.heap.size + 1, 1, none⟩) hlt1).trans (cell_of_cells H1.out 1)
      have j2 := (hI.cell (p := ⟨w.heap.size + 1, 2, none⟩) hlt1).trans (cell_of_cells H1.out 2)
      have j3 := (hI.cell (p := ⟨w.heap.size + 1, 3, none⟩) hlt1).trans (cell_of_cells H1.out 3)
      refine ⟨hp.want rfl rfl rfl e25, ?_⟩
      clear hp
      go_simp
      rfl
    refine Free.Seq.call (T := Free.eqF (.bool true)) (fun _ _ _ h _ => h) (fun a w1 hI hp => ?_) ?_
    · have e25 := hp.backV 14 2 rfl rfl rfl rfl rfl; have e26 := hp.backV 15 1 rfl rfl rfl rfl rfl; have e27 := hp.backV 16 0 rfl rfl rfl rfl rfl
      refine ⟨hp.want rfl rfl rfl e25, 10, #[(.agg #[.int .i64 ao, .int .i64 ad, .int .i64 ae, .int .i64 ac]), (.agg #[.int .i64 bo, .int .i64 bd, .int .i64 be, .int .i64 bc])], ?_, ?_⟩
      · clear hp
        go_simp
      · refine (HL1.out _).mono ?_
        rintro e w' ⟨rfl, hb⟩
        exact ⟨_, rfl, rfl, hb, hI.trans (hb.mono hI.size)⟩
    refine Free.Seq.val ?_ (fun _ => Below.refl _ _) (fun a w1 hI hp => ?_) ?_
    rotate_left
    · have e25 := hp.backV 14 3 rfl rfl rfl rfl rfl; have e28 := hp.backV 17 0 rfl rfl rfl rfl rfl
      refine ⟨hp.want rfl rfl rfl e25, ?_⟩
      clear hp
      go_simp
      rfl
    refine Free.Seq.val ?_ (fun _ => Below.refl _ _) (fun a w1 hI hp => ?_) ?_
    rotate_left
    · have e29 := hp.backV 18 0 rfl rfl rfl rfl rfl; have e4 := hp.slotV 4 (by kernel_rfl) rfl; simp at e4
      have j0 := (hI.cell (p := ⟨w.heap.size + 1, 0, none⟩) hlt1).trans (cell_of_cells H1.out 0)
      have j1 := (hI.cell (p := ⟨w.heap.size + 1, 1, none⟩) hlt1).trans (cell_of_cells H1.out 1)
      have j2 := (hI.cell (p := ⟨w.heap.size + 1, 2, none⟩) hlt1).trans (cell_of_cells H1.out 2)
      have j3 := (hI.cell (p := ⟨w.heap.size + 1, 3, none⟩) hlt1).trans (cell_of_cells H1.out 3)
      refine ⟨hp.want rfl rfl rfl e29, ?_⟩
      clear hp
      go_simp
      rfl
    refine Free.Seq.val ?_ (fun _ => Below.refl _ _) (fun a w1 hI hp => ?_) ?_
    rotate_left
    · have e29 := hp.backV 18 1 rfl rfl rfl rfl rfl; have e3 := hp.slotV 3 (by kernel_rfl) rfl; simp at e3
      have i0 := (hI.cell (p := ⟨w.heap.size, 0, none⟩) hlt0).trans (cell_of_cells H0.out 0)
      have i1 := (hI.cell (p := ⟨w.heap.size, 1, none⟩) hlt0).trans (cell_of_cells H0.out 1)
      have i2 := (hI.cell (p := ⟨w.heap.size, 2, none⟩) hlt0).trans (cell_of_cells H0.out 2)
      have i3 := (hI.cell (p := ⟨w.heap.size, 3, none⟩) hlt0).trans (cell_of_cells H0.out 3)
      refine ⟨hp.want rfl rfl rfl e29, ?_⟩
      clear hp
      go_simp
      rfl
    refine Free.Seq.call (T := Free.eqF (.bool false)) (fun _ _ _ h _ => h) (fun a w1 hI hp => ?_) ?_
    · have e29 := hp.backV 18 2 rfl rfl rfl rfl rfl; have e30 := hp.backV 19 1 rfl rfl rfl rfl rfl; have e31 := hp.backV 20 0 rfl rfl rfl rfl rfl
      refine ⟨hp.want rfl rfl rfl e29, 10, #[(.agg #[.int .i64 bo, .int .i64 bd, .int .i64 be, .int .i64 bc]), (.agg #[.int .i64 ao, .int .i64 ad, .int .i64 ae, .int .i64 ac])], ?_, ?_⟩
      · clear hp
        go_simp
      · refine (HL2.out _).mono ?_
        rintro e w' ⟨rfl, hb⟩
        exact ⟨_, rfl, rfl, hb, hI.trans (hb.mono hI.size)⟩
    refine Free.Seq.val ?_ (fun _ => Below.refl _ _) (fun a w1 hI hp => ?_) ?_
    rotate_left
    · have e25 := hp.backV 14 7 rfl rfl rfl rfl rfl; have e29 := hp.backV 18 3 rfl rfl rfl rfl rfl; have e32 := hp.backV 21 0 rfl rfl rfl rfl rfl
      refine ⟨hp.want rfl rfl rfl e25, ?_⟩
      clear hp
      go_simp
      rfl
    refine Free.Seq.val ?_ (fun _ => Below.refl _ _) (fun a w1 hI hp => ?_) ?_
    rotate_left
    · have e25 := hp.backV 14 8 rfl rfl rfl rfl rfl; have e33 := hp.backV 22 0 rfl rfl rfl rfl rfl
      refine ⟨Free.want_none rfl, ?_⟩
      clear hp
      go_simp
      rfl
    refine Free.Seq.done (by simp) (fun wz hIz => ?_)
    simp only [List.reverse_cons, List.reverse_nil, List.nil_append, List.cons_append, Free.All, Free.eqF, forall_eq]
    skip
    simp only [Free.putL, Act.put, List.setIfInBounds_toArray, List.set_cons_zero, List.set_cons_succ]
    have i0 := (hIz.cell (p := ⟨w.heap.size, 0, none⟩) hlt0).trans (cell_of_cells H0.out 0)
    have i1 := (hIz.cell (p := ⟨w.heap.size, 1, none⟩) hlt0).trans (cell_of_cells H0.out 1)
    have i2 := (hIz.cell (p := ⟨w.heap.size, 2, none⟩) hlt0).trans (cell_of_cells H0.out 2)
    have i3 := (hIz.cell (p := ⟨w.heap.size, 3, none⟩) hlt0).trans (cell_of_cells H0.out 3)
    have j0 := (hIz.cell (p := ⟨w.heap.size + 1, 0, none⟩) hlt1).trans (cell_of_cells H1.out 0)
    have j1 := (hIz.cell (p := ⟨w.heap.size + 1, 1, none⟩) hlt1).trans (cell_of_cells H1.out 1)
    have j2 := (hIz.cell (p := ⟨w.heap.size + 1, 2, none⟩) hlt1).trans (cell_of_cells H1.out 2)
    have j3 := (hIz.cell (p := ⟨w.heap.size + 1, 3, none⟩) hlt1).trans (cell_of_cells H1.out 3)
    go_wp2_with fail
    refine (HL1.out _).mono ?_
    rintro e wy ⟨rfl, hb⟩
    replace hIz := hIz.trans (hb.mono hIz.size)
    clear hb i0 i1 i2 i3 j0 j1 j2 j3
    have j0 := (hIz.cell (p := ⟨w.heap.size + 1, 0, none⟩) hlt1).trans (cell_of_cells H1.out 0)
    have j1 := (hIz.cell (p := ⟨w.heap.size + 1, 1, none⟩) hlt1).trans (cell_of_cells H1.out 1)
    have j2 := (hIz.cell (p := ⟨w.heap.size + 1, 2, none⟩) hlt1).trans (cell_of_cells H1.out 2)
    have j3 := (hIz.cell (p := ⟨w.heap.size + 1, 3, none⟩) hlt1).trans (cell_of_cells H1.out 3)
    have k0 := (hIz.cell (p := ⟨w.heap.size + 2, 0, none⟩) hlt).trans (cell_of_cells H2.out 0)
    have k1 := (hIz.cell (p := ⟨w.heap.size + 2, 1, none⟩) hlt).trans (cell_of_cells H2.out 1)
    have k2 := (hIz.cell (p := ⟨w.heap.size + 2, 2, none⟩) hlt).trans (cell_of_cells H2.out 2)
    have k3 := (hIz.cell (p := ⟨w.heap.size + 2, 3, none⟩) hlt).trans (cell_of_cells H2.out 3)
    go_wp2_with fail
    refine (HL3.out _).mono ?_
    rintro e wy ⟨rfl, hb⟩
    replace hIz := hIz.trans (hb.mono hIz.size)
    clear hb j0 j1 j2 j3 k0 k1 k2 k3
    have i0 := (hIz.cell (p := ⟨w.heap.size, 0, none⟩) hlt0).trans (cell_of_cells H0.out 0)
    have i1 := (hIz.cell (p := ⟨w.heap.size, 1, none⟩) hlt0).trans (cell_of_cells H0.out 1)
    have i2 := (hIz.cell (p := ⟨w.heap.size, 2, none⟩) hlt0).trans (cell_of_cells H0.out 2)
    have i3 := (hIz.cell (p := ⟨w.heap.size, 3, none⟩) hlt0).trans (cell_of_cells H0.out 3)
    have k0 := (hIz.cell (p := ⟨w.heap.size + 2, 0, none⟩) hlt).trans (cell_of_cells H2.out 0)
    have k1 := (hIz.cell (p := ⟨w.heap.size + 2, 1, none⟩) hlt).trans (cell_of_cells H2.out 1)
    have k2 := (hIz.cell (p := ⟨w.heap.size + 2, 2, none⟩) hlt).trans (cell_of_cells H2.out 2)
    have k3 := (hIz.cell (p := ⟨w.heap.size + 2, 3, none⟩) hlt).trans (cell_of_cells H2.out 3)
    go_wp2_with fail
    refine (HL4.out _).mono ?_
    rintro e wy ⟨rfl, hb⟩
    replace hIz := hIz.trans (hb.mono hIz.size)
    clear hb i0 i1 i2 i3 k0 k1 k2 k3
  all_goals
    clear HC3
    have i0 := (hIz.cell (p := ⟨w.heap.size, 0, none⟩) hlt0).trans (cell_of_cells H0.out 0)
    have i1 := (hIz.cell (p := ⟨w.heap.size, 1, none⟩) hlt0).trans (cell_of_cells H0.out 1)
    have i2 := (hIz.cell (p := ⟨w.heap.size, 2, none⟩) hlt0).trans (cell_of_cells H0.out 2)
    have i3 := (hIz.cell (p := ⟨w.heap.size, 3, none⟩) hlt0).trans (cell_of_cells H0.out 3)
    go_wp2_with fail
    refine (HP1.out _).mono ?_
    rintro e w1 ⟨A1, n1, c1, rfl, rfl, ho1, hb1⟩
    replace hIz := hIz.trans (hb1.mono hIz.size)
    clear hb1 i0 i1 i2 i3
    have j0 := (hIz.cell (p := ⟨w.heap.size + 1, 0, none⟩) hlt1).trans (cell_of_cells H1.out 0)
    have j1 := (hIz.cell (p := ⟨w.heap.size + 1, 1, none⟩) hlt1).trans (cell_of_cells H1.out 1)
    have j2 := (hIz.cell (p := ⟨w.heap.size + 1, 2, none⟩) hlt1).trans (cell_of_cells H1.out 2)
    have j3 := (hIz.cell (p := ⟨w.heap.size + 1, 3, none⟩) hlt1).trans (cell_of_cells H1.out 3)
    go_wp2_with fail
    refine (HP2.out _).mono ?_
    rintro e w2 ⟨A2, n2, c2, rfl, rfl, ho2, hb2⟩
    have hr1 := (ho1.rd rfl (by omega)).below hb2
    have hr2 := ho2.rd rfl (by omega)
    replace hIz := hIz.trans (hb2.mono hIz.size)
    clear hb2 j0 j1 j2 j3 ho1 ho2
    go_wp2_with fail
    rcases HC7.out with h3 | ⟨rfl, h3⟩ | ⟨rfl, rfl, h3⟩
    · have t0 : (z1 == 0) = false := by simpa using h3
      have HR1 := Lib.hid hr1
      have HR2 := Lib.hid hr2
      clear h3 HC7 hr1 hr2
      refine Free.wp_seq (I := fun w' => Below w0.heap.size w0 w' ∧ Below w2.heap.size w2 w') (Gr := fun w1 w2 => Below w1.heap.size w1 w2) (by kernel_rfl) (by kernel_rfl) ⟨hIz.drew, (Below.refl _ _).drew⟩ ?_
      refine Free.Seq.val ?_ (fun _ => Below.refl _ _) (fun a w1 hI hp => ?_) ?_
      rotate_left
      · have e8 := hp.slotV 8 (by kernel_rfl) rfl; simp at e8
        refine ⟨Free.want_none rfl, ?_⟩
        clear hp
        go_simp
        rfl
      refine Free.Seq.val ?_ (fun _ => Below.refl _ _) (fun a w1 hI hp => ?_) ?_
      rotate_left
      · have e59 := hp.backV 0 0 rfl rfl rfl rfl rfl
        refine ⟨Free.want_none rfl, ?_⟩
        clear hp
        go_simp
        rfl
      refine Free.Seq.val ?_ (fun _ => Below.refl _ _) (fun a w1 hI hp => ?_) ?_
      rotate_left
      · have e60 := hp.backV 1 0 rfl rfl rfl rfl rfl
        refine ⟨Free.want_none rfl, ?_⟩
        clear hp
        go_simp
        rfl
      refine Free.Seq.pass (fun a w1 hI hp => hp.pass rfl rfl rfl (hp.backV 2 0 rfl rfl rfl rfl rfl)) ?_
      refine Free.Seq.pass (fun a w1 hI hp => hp.pass rfl rfl rfl (hp.backV 2 1 rfl rfl rfl rfl rfl)) ?_
      refine Free.Seq.val ?_ (fun _ => Below.refl _ _) (fun a w1 hI hp => ?_) ?_
      rotate_left
      · have e61 := hp.backV 2 2 rfl rfl rfl rfl rfl; have e63 := hp.backV 4 0 rfl rfl rfl rfl rfl
        refine ⟨Free.want_none rfl, ?_⟩
        clear hp
        go_simp
        rfl
      refine Free.Seq.val ?_ (fun _ => Below.refl _ _) (fun a w1 hI hp => ?_) ?_
      rotate_left
      · have e64 := hp.backV 5 0 rfl rfl rfl rfl rfl
        refine ⟨Free.want_none rfl, ?_⟩
        clear hp
        go_simp
        rfl
      refine Free.Seq.pass (fun a w1 hI hp => hp.pass rfl rfl rfl (hp.backV 6 0 rfl rfl rfl rfl rfl)) ?_
      refine Free.Seq.pass (fun a w1 hI hp => hp.pass rfl rfl rfl (hp.backV 6 1 rfl rfl rfl rfl rfl)) ?_
      refine Free.Seq.pass (fun a w1 hI hp => hp.pass rfl rfl rfl (hp.backV 6 2 rfl rfl rfl rfl rfl)) ?_
      refine Free.Seq.pass (fun a w1 hI hp => hp.pass rfl rfl rfl (hp.backV 6 3 rfl rfl rfl rfl rfl)) ?_
      refine Free.Seq.pass (fun a w1 hI hp => hp.pass rfl rfl rfl (hp.backV 6 4 rfl rfl rfl rfl rfl)) ?_
      refine Free.Seq.pass (fun a w1 hI hp => hp.pass rfl rfl rfl (hp.backV 6 5 rfl rfl rfl rfl rfl)) ?_
      refine Free.Seq.pass (fun a w1 hI hp => hp.pass rfl rfl rfl (hp.backV 6 6 rfl rfl rfl rfl rfl)) ?_
      refine Free.Seq.pass (fun a w1 hI hp => hp.pass rfl rfl rfl (hp.backV 6 7 rfl rfl rfl rfl rfl)) ?_
      refine Free.Seq.pass (fun a w1 hI hp => hp.pass rfl rfl rfl (hp.backV 6 8 rfl rfl rfl rfl rfl)) ?_
      refine Free.Seq.val ?_ (fun _ => Below.refl _ _) (fun a w1 hI hp => ?_) ?_
      rotate_left
      · have e65 := hp.backV 6 9 rfl rfl rfl rfl rfl; have e74 := hp.backV 15 0 rfl rfl rfl rfl rfl
        refine ⟨Free.want_none rfl, ?_⟩
        clear hp
        go_simp
        rfl
      refine Free.Seq.done (by simp) (fun wz hIz => ?_)
      simp only [List.reverse_cons, List.reverse_nil, List.nil_append, List.cons_append, Free.All, Free.eqF, forall_eq]
      skip
      simp only [Free.putL, Act.put, List.setIfInBounds_toArray, List.set_cons_zero, List.set_cons_succ]
      replace hIz := hIz.1
      go_wp2_with fail
      refine (awake_any _).mono ?_
      rintro e w9 ⟨rfl, hb9⟩
      go_wp2
      go_ret
      exact ⟨rfl, HBW.out.trans ((hIz.trans (hb9.mono hIz.size)).mono HBW.out.size)⟩
    · have t0 : (z2 == 0) = false := by simpa using h3
      have HR1 := Lib.hid hr1
      have HR2 := Lib.hid hr2
      clear h3 HC7 hr1 hr2
      refine Free.wp_seq (I := fun w' => Below w0.heap.size w0 w' ∧ Below w2.heap.size w2 w') (Gr := fun w1 w2 => Below w1.heap.size w1 w2) (by kernel_rfl) (by kernel_rfl) ⟨hIz.drew, (Below.refl _ _).drew⟩ ?_
      refine Free.Seq.val ?_ (fun _ => Below.refl _ _) (fun a w1 hI hp => ?_) ?_
      rotate_left
      · have e8 := hp.slotV 8 (by kernel_rfl) rfl; simp at e8
        refine ⟨Free.want_none rfl, ?_⟩
        clear hp
        go_simp
        rfl
      refine Free.Seq.val ?_ (fun _ => Below.refl _ _) (fun a w1 hI hp => ?_) ?_
      rotate_left
      · have e59 := hp.backV 0 0 rfl rfl rfl rfl rfl
        refine ⟨Free.want_none rfl, ?_⟩
        clear hp
        go_simp
        rfl
      refine Free.Seq.val ?_ (fun _ => Below.refl _ _) (fun a w1 hI hp => ?_) ?_
      rotate_left
      · have e60 := hp.backV 1 0 rfl rfl rfl rfl rfl
        refine ⟨Free.want_none rfl, ?_⟩
        clear hp
        go_simp
        rfl
      refine Free.Seq.val ?_ (fun _ => Below.refl _ _) (fun a w1 hI hp => ?_) ?_
      rotate_left
      · have e61 := hp.backV 2 0 rfl rfl rfl rfl rfl; have e10 := hp.slotV 10 (by kernel_rfl) rfl; simp at e10
        refine ⟨hp.want rfl rfl rfl e61, ?_⟩
        clear hp
        go_simp
        rfl
      refine Free.Seq.val ?_ (fun _ => Below.refl _ _) (fun a w1 hI hp => ?_) ?_
      rotate_left
      · have e61 := hp.backV 2 1 rfl rfl rfl rfl rfl; have e62 := hp.backV 3 0 rfl rfl rfl rfl rfl
        refine ⟨hp.want rfl rfl rfl e61, ?_⟩
        clear hp
        go_simp
        rfl
      refine Free.Seq.val ?_ (fun _ => Below.refl _ _) (fun a w1 hI hp => ?_) ?_
      rotate_left
      · have e61 := hp.backV 2 2 rfl rfl rfl rfl rfl; have e63 := hp.backV 4 0 rfl rfl rfl rfl rfl
        refine ⟨Free.want_none rfl, ?_⟩
        clear hp
        go_simp
        rfl
      refine Free.Seq.val ?_ (fun _ => Below.refl _ _) (fun a w1 hI hp => ?_) ?_
      rotate_left
      · have e64 := hp.backV 5 0 rfl rfl rfl rfl rfl
        refine ⟨Free.want_none rfl, ?_⟩
        clear hp
        go_simp
        rfl
      refine Free.Seq.pass (fun a w1 hI hp => hp.pass rfl rfl rfl (hp.backV 6 0 rfl rfl rfl rfl rfl)) ?_
      refine Free.Seq.pass (fun a w1 hI hp => hp.pass rfl rfl rfl (hp.backV 6 1 rfl rfl rfl rfl rfl)) ?_
      refine Free.Seq.pass (fun a w1 hI hp => hp.pass rfl rfl rfl (hp.backV 6 2 rfl rfl rfl rfl rfl)) ?_
      refine Free.Seq.pass (fun a w1 hI hp => hp.pass rfl rfl rfl (hp.backV 6 3 rfl rfl rfl rfl rfl)) ?_
      refine Free.Seq.pass (fun a w1 hI hp => hp.pass rfl rfl rfl (hp.backV 6 4 rfl rfl rfl rfl rfl)) ?_
      refine Free.Seq.pass (fun a w1 hI hp => hp.pass rfl rfl rfl (hp.backV 6 5 rfl rfl rfl rfl rfl)) ?_
      refine Free.Seq.pass (fun a w1 hI hp => hp.pass rfl rfl rfl (hp.backV 6 6 rfl rfl rfl rfl rfl)) ?_
      refine Free.Seq.pass (fun a w1 hI hp => hp.pass rfl rfl rfl (hp.backV 6 7 rfl rfl rfl rfl rfl)) ?_
      refine Free.Seq.pass (fun a w1 hI hp => hp.pass rfl rfl rfl (hp.backV 6 8 rfl rfl rfl rfl rfl)) ?_
      refine Free.Seq.val ?_ (fun _ => Below.refl _ _) (fun a w1 hI hp => ?_) ?_
      rotate_left
      · have e65 := hp.backV 6 9 rfl rfl rfl rfl rfl; have e74 := hp.backV 15 0 rfl rfl rfl rfl rfl
        refine ⟨Free.want_none rfl, ?_⟩
        clear hp
        go_simp
        rfl
      refine Free.Seq.done (by simp) (fun wz hIz => ?_)
      simp only [List.reverse_cons, List.reverse_nil, List.nil_append, List.cons_append, Free.All, Free.eqF, forall_eq]
      skip
      simp only [Free.putL, Act.put, List.setIfInBounds_toArray, List.set_cons_zero, List.set_cons_succ]
      replace hIz := hIz.1
      go_wp2_with fail
      refine (awake_any _).mono ?_
      rintro e w9 ⟨rfl, hb9⟩
      go_wp2
      go_ret
      exact ⟨rfl, HBW.out.trans ((hIz.trans (hb9.mono hIz.size)).mono HBW.out.size)⟩
    · have H4 := Lib.hid h3
      have HR1 := Lib.hid hr1
      have HR2 := Lib.hid hr2
      clear h3 HC7 hr1 hr2
      refine Free.wp_seq (I := fun w' => Below w0.heap.size w0 w' ∧ Below w2.heap.size w2 w') (Gr := fun w1 w2 => Below w1.heap.size w1 w2) (by kernel_rfl) (by kernel_rfl) ⟨hIz.drew, (Below.refl _ _).drew⟩ ?_
      refine Free.Seq.val ?_ (fun _ => Below.refl _ _) (fun a w1 hI hp => ?_) ?_
      rotate_left
      · have e8 := hp.slotV 8 (by kernel_rfl) rfl; simp at e8
        refine ⟨Free.want_none rfl, ?_⟩
        clear hp
        go_simp
        rfl
      refine Free.Seq.val ?_ (fun _ => Below.refl _ _) (fun a w1 hI hp => ?_) ?_
      rotate_left
      · have e59 := hp.backV 0 0 rfl rfl rfl rfl rfl
        refine ⟨Free.want_none rfl, ?_⟩
        clear hp
        go_simp
        rfl
      refine Free.Seq.val ?_ (fun _ => Below.refl _ _) (fun a w1 hI hp => ?_) ?_
      rotate_left
      · have e60 := hp.backV 1 0 rfl rfl rfl rfl rfl
        refine ⟨Free.want_none rfl, ?_⟩
        clear hp
        go_simp
        rfl
      refine Free.Seq.val ?_ (fun _ => Below.refl _ _) (fun a w1 hI hp => ?_) ?_
      rotate_left
      · have e61 := hp.backV 2 0 rfl rfl rfl rfl rfl; have e10 := hp.slotV 10 (by kernel_rfl) rfl; simp at e10
        refine ⟨hp.want rfl rfl rfl e61, ?_⟩
        clear hp
        go_simp
        rfl
      refine Free.Seq.val ?_ (fun _ => Below.refl _ _) (fun a w1 hI hp => ?_) ?_
      rotate_left
      · have e61 := hp.backV 2 1 rfl rfl rfl rfl rfl; have e62 := hp.backV 3 0 rfl rfl rfl rfl rfl
        refine ⟨hp.want rfl rfl rfl e61, ?_⟩
        clear hp
        go_simp
        rfl
      refine Free.Seq.val ?_ (fun _ => Below.refl _ _) (fun a w1 hI hp => ?_) ?_
      rotate_left
      · have e61 := hp.backV 2 2 rfl rfl rfl rfl rfl; have e63 := hp.backV 4 0 rfl rfl rfl rfl rfl
        refine ⟨Free.want_none rfl, ?_⟩
        clear hp
        go_simp
        rfl
      refine Free.Seq.val ?_ (fun _ => Below.refl _ _) (fun a w1 hI hp => ?_) ?_
      rotate_left
      · have e64 := hp.backV 5 0 rfl rfl rfl rfl rfl
        refine ⟨Free.want_none rfl, ?_⟩
        clear hp
        go_simp
        rfl
      refine Free.Seq.val ?_ (fun _ => Below.refl _ _) (fun a w1 hI hp => ?_) ?_
      rotate_left
      · have e65 := hp.backV 6 0 rfl rfl rfl rfl rfl; have e7 := hp.slotV 7 (by kernel_rfl) rfl; simp at e7
        refine ⟨hp.want rfl rfl rfl e65, ?_⟩
        clear hp
        go_simp
        rfl
      refine Free.Seq.val ?_ (fun _ => Below.refl _ _) (fun a w1 hI hp => ?_) ?_
      rotate_left
      · have e65 := hp.backV 6 1 rfl rfl rfl rfl rfl; have e66 := hp.backV 7 0 rfl rfl rfl rfl rfl
        have hc := (HR1.out.below hI.2).string (P := Tryd.prog) 25 9 5 Tryd.underlying25 Tryd.underlying5 Tryd.underlying9
        refine ⟨hp.want rfl rfl rfl e65, ?_⟩
        clear hp
        go_simp
        rfl
      refine Free.Seq.val ?_ (fun _ => Below.refl _ _) (fun a w1 hI hp => ?_) ?_
      rotate_left
      · have e65 := hp.backV 6 2 rfl rfl rfl rfl rfl; have e9 := hp.slotV 9 (by kernel_rfl) rfl; simp at e9
        refine ⟨hp.want rfl rfl rfl e65, ?_⟩
        clear hp
        go_simp
        rfl
      refine Free.Seq.val ?_ (fun _ => Below.refl _ _) (fun a w1 hI hp => ?_) ?_
      rotate_left
      · have e65 := hp.backV 6 3 rfl rfl rfl rfl rfl; have e68 := hp.backV 9 0 rfl rfl rfl rfl rfl
        have hc := (HR2.out.below hI.2).string (P := Tryd.prog) 25 9 5 Tryd.underlying25 Tryd.underlying5 Tryd.underlying9
        refine ⟨hp.want rfl rfl rfl e65, ?_⟩
        clear hp
        go_simp
        rfl
      refine Free.Seq.val ?_ (fun _ => Below.refl _ _) (fun a w1 hI hp => ?_) ?_
      rotate_left
      · have e65 := hp.backV 6 4 rfl rfl rfl rfl rfl; have e67 := hp.backV 8 2 rfl rfl rfl rfl rfl; have e69 := hp.backV 10 0 rfl rfl rfl rfl rfl
        refine ⟨hp.want rfl rfl rfl e65, ?_⟩
        clear hp
        go_simp
        rw [H4.out]
      refine Free.Seq.val ?_ (fun _ => Below.refl _ _) (fun a w1 hI hp => ?_) ?_
      rotate_left
      · have e65 := hp.backV 6 5 rfl rfl rfl rfl rfl; have e3 := hp.slotV 3 (by kernel_rfl) rfl; simp at e3
        have i0 := (hI.1.cell (p := ⟨w.heap.size, 0, none⟩) hlt0).trans (cell_of_cells H0.out 0)
        have i1 := (hI.1.cell (p := ⟨w.heap.size, 1, none⟩) hlt0).trans (cell_of_cells H0.out 1)
        have i2 := (hI.1.cell (p := ⟨w.heap.size, 2, none⟩) hlt0).trans (cell_of_cells H0.out 2)
        have i3 := (hI.1.cell (p := ⟨w.heap.size, 3, none⟩) hlt0).trans (cell_of_cells H0.out 3)
        refine ⟨hp.want rfl rfl rfl e65, ?_⟩
        clear hp
        go_simp
        rfl
      refine Free.Seq.val ?_ (fun _ => Below.refl _ _) (fun a w1 hI hp => ?_) ?_
      rotate_left
      · have e65 := hp.backV 6 6 rfl rfl rfl rfl rfl; have e4 := hp.slotV 4 (by kernel_rfl) rfl; simp at e4
        have j0 := (hI.1.cell (p := ⟨w.heap.size + 1, 0, none⟩) hlt1).trans (cell_of_cells H1.out 0)
        have j1 := (hI.1.cell (p := ⟨w.heap.size + 1, 1, none⟩) hlt1).trans (cell_of_cells H1.out 1)
        have j2 := (hI.1.cell (p := ⟨w.heap.size + 1, 2, none⟩) hlt1).trans (cell_of_cells H1.out 2)
        have j3 := (hI.1.cell (p := ⟨w.heap.size + 1, 3, none⟩) hlt1).trans (cell_of_cells H1.out 3)
        refine ⟨hp.want rfl rfl rfl e65, ?_⟩
        clear hp
        go_simp
        rfl
      refine Free.Seq.call (T := Free.eqF (.bool r')) (fun _ _ _ h _ => h) (fun a w1 hI hp => ?_) ?_
      · have e65 := hp.backV 6 7 rfl rfl rfl rfl rfl; have e71 := hp.backV 12 1 rfl rfl rfl rfl rfl; have e72 := hp.backV 13 0 rfl rfl rfl rfl rfl
        refine ⟨hp.want rfl rfl rfl e65, 10, #[(.agg #[.int .i64 ao, .int .i64 ad, .int .i64 ae, .int .i64 ac]), (.agg #[.int .i64 bo, .int .i64 bd, .int .i64 be, .int .i64 bc])], ?_, ?_⟩
        · clear hp
          go_simp
        · refine (HL5.out _).mono ?_
          rintro e w' ⟨rfl, hb⟩
          exact ⟨_, rfl, rfl, hb, hI.1.trans (hb.mono hI.1.size), hI.2.trans (hb.mono hI.2.size)⟩
      refine Free.Seq.val ?_ (fun _ => Below.refl _ _) (fun a w1 hI hp => ?_) ?_
      rotate_left
      · have e65 := hp.backV 6 8 rfl rfl rfl rfl rfl; have e70 := hp.backV 11 3 rfl rfl rfl rfl rfl; have e73 := hp.backV 14 0 rfl rfl rfl rfl rfl
        refine ⟨hp.want rfl rfl rfl e65, ?_⟩
        clear hp
        go_simp
        rfl
      refine Free.Seq.val ?_ (fun _ => Below.refl _ _) (fun a w1 hI hp => ?_) ?_
      rotate_left
      · have e65 := hp.backV 6 9 rfl rfl rfl rfl rfl; have e74 := hp.backV 15 0 rfl rfl rfl rfl rfl
        refine ⟨Free.want_none rfl, ?_⟩
        clear hp
        go_simp
        rfl
      refine Free.Seq.done (by simp) (fun wz hIz => ?_)
      simp only [List.reverse_cons, List.reverse_nil, List.nil_append, List.cons_append, Free.All, Free.eqF, forall_eq]
      skip
      simp only [Free.putL, Act.put, List.setIfInBounds_toArray, List.set_cons_zero, List.set_cons_succ]
      replace hIz := hIz.1
      go_wp2_with fail
      refine (awake_any _).mono ?_
      rintro e w9 ⟨rfl, hb9⟩
      go_wp2
      go_ret
      exact ⟨rfl, HBW.out.trans ((hIz.trans (hb9.mono hIz.size)).mono HBW.out.size)⟩

end Go.Proofs.YtmdjjlgaflpcfaaDoor
