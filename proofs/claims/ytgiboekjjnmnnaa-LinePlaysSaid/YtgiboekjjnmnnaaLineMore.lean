/-
  THE WALKS OF Line.Insert, Line.Drop, Line.Flip.
-/
import Derived.Test.YtgiboekjjnmnnaaLineTake
import Derived.Test.YtgiboekjjnmnnaaCopy
import Derived.BigRegion
namespace Go.Proofs.Ytgiboekjjnmnnaa
open Go.RowKit

set_option maxHeartbeats 1000000 in
theorem flip_range (w : World) {B g : Nat} {dl nw : Int} {n : Nat} {P D : Value} {p : List UInt8} {due : List Int} (h : Ln w B g dl nw n n P D p due) (at_ mask : Int) (ha : at_ < 0 ∨ (n : Int) ≤ at_) :
    Calls Try.prog 19 #[.pointer (some ⟨g, 0, none⟩), .int .i64 at_, .int .i64 mask] w fun e w' => e = .returned (.int .i64 1) ∧ w = w' := by
  obtain ⟨AP, cP, rfl, _⟩ := h.hp.form
  have c2 := h.c2
  clear h
  go_enter Try.func19, Try.ntmps19
  by_cases h0 : at_ < 0
  · have t1 : decide (at_ < 0) = true := by simp; omega
    clear ha
    go_wp2
    go_ret
    exact ⟨rfl, rfl⟩
  · have t1 : decide (at_ < 0) = false := by simp; omega
    have t2 : decide ((n : Int) ≤ at_) = true := by simp; omega
    clear ha h0
    go_wp2
    go_ret
    exact ⟨rfl, rfl⟩

set_option maxHeartbeats 1000000 in
theorem flip_form (w : World) {B g : Nat} {dl nw : Int} {n : Nat} {P D : Value} {p : List UInt8} {due : List Int} (h : Ln w B g dl nw n n P D p due) (k : Nat) (hk : k < n) (mask : Int) (hm : IntKind.u8.wrap mask = 0) :
    Calls Try.prog 19 #[.pointer (some ⟨g, 0, none⟩), .int .i64 k, .int .i64 mask] w fun e w' => e = .returned (.int .i64 2) ∧ w = w' := by
  obtain ⟨AP, cP, rfl, _⟩ := h.hp.form
  have c2 := h.c2
  clear h
  have t2 : decide ((n : Int) ≤ (k : Int)) = false := by simp; omega
  go_enter Try.func19, Try.ntmps19
  go_wp2
  go_ret
  exact ⟨rfl, rfl⟩

set_option maxHeartbeats 1000000 in
theorem flip_ok (w : World) {B g : Nat} {dl nw : Int} {n : Nat} {P D : Value} {p : List UInt8} {due : List Int} (h : Ln w B g dl nw n n P D p due) (k : Nat) (hk : k < n) (mask : Int) (m x : UInt8) (hm : IntKind.u8.wrap mask = (m.toNat : Int)) (hm0 : m ≠ 0) (hx : p[k]? = some x) :
    Calls Try.prog 19 #[.pointer (some ⟨g, 0, none⟩), .int .i64 k, .int .i64 mask] w fun e w' => e = .returned (.int .i64 0) ∧ Ln w' B g dl nw n n P D (p.set k (x ^^^ m)) due ∧ Kept (LnS g P D) w w' := by
  obtain ⟨AP, cP, rfl, _⟩ := h.hp.form
  obtain ⟨gp, off, rfl, hBp, hgp, hcell⟩ := h.hp.cell (by omega)
  have c2 := h.c2
  have hc := hcell k (bv x) (by simp [bs, hx])
  have hf := h.hp.free (off + k)
  have H := Lib.hid h
  have hpne := h.pne
  have hml := m.toNat_lt
  have t2 : decide ((n : Int) ≤ (k : Int)) = false := by simp; omega
  have t3 : ((m.toNat : Int) == 0) = false := by
    simp
    intro e
    exact hm0 (UInt8.toNat_inj.1 (by simpa using e))
  obtain ⟨y, hy⟩ : ∃ y : Nat, y = m.toNat := ⟨_, rfl⟩
  obtain ⟨z, hz⟩ : ∃ z : Nat, z = x.toNat := ⟨_, rfl⟩
  have hxx : Hid (Value.int .u8 (bits .xor .u8 (z : Int) (y : Int)) = bv (x ^^^ m)) := by
    rw [hz, hy]
    show _ = _
    rw [u8_xor_nat _ _ (by have := x.toNat_lt; simpa using this) (by simpa using hml)]
    simp [bv]
  unfold bv at hc
  rw [← hz] at hc
  rw [← hy] at hm t3
  clear h hcell hx hm0 hy hz hml
  go_enter Try.func19, Try.ntmps19
  go_wp2
  go_ret
  rw [hxx.out]
  refine ⟨rfl, ⟨H.out.low, ?_, ?_, ?_⟩, (Kept.refl (LnS g _ D) w).setCell (p := ⟨gp, off + k, none⟩) (.inl (.inr (.inl rfl))) _⟩
  · rw [heap_setCell_other _ _ _ _ (by rintro rfl; exact hpne rfl)]
    exact H.out.obj
  · have := H.out.hp.store k (by omega) (bv (x ^^^ m))
    have e : (bs p).set k (bv (x ^^^ m)) = bs (p.set k (x ^^^ m)) := by simp [bs, List.map_set]
    rw [← e]
    exact this
  · exact H.out.hd.kept fun i e => heap_setCell_other _ _ _ _ (by rintro rfl; exact H.out.pd _ rfl e)

set_option maxHeartbeats 1000000 in
theorem drop_range (w : World) {B g : Nat} {dl nw : Int} {n : Nat} {P D : Value} {p : List UInt8} {due : List Int} (h : Ln w B g dl nw n n P D p due) (hn : n ≤ 65536) (at_ m : Int) (ha : at_ < 0 ∨ m < 0 ∨ (n : Int) < at_ ∨ (n : Int) - at_ < m) :
    Calls Try.prog 18 #[.pointer (some ⟨g, 0, none⟩), .int .i64 at_, .int .i64 m] w fun e w' => e = .returned (.int .i64 1) ∧ w = w' := by
  obtain ⟨AP, cP, rfl, _⟩ := h.hp.form
  have c2 := h.c2
  clear h
  by_cases h0 : at_ < 0
  · have t1 : decide (at_ < 0) = true := by simp; omega
    clear ha
    go_enter Try.func18, Try.ntmps18
    go_wp2
    go_ret
    exact ⟨rfl, rfl⟩
  have t1 : decide (at_ < 0) = false := by simp; omega
  by_cases h2 : m < 0
  · have t2 : decide (m < 0) = true := by simp; omega
    clear ha
    go_enter Try.func18, Try.ntmps18
    go_wp2
    go_ret
    exact ⟨rfl, rfl⟩
  have t2 : decide (m < 0) = false := by simp; omega
  by_cases h3 : (n : Int) < at_
  · have t3 : decide ((n : Int) < at_) = true := by simp; omega
    clear ha
    go_enter Try.func18, Try.ntmps18
    go_wp2
    go_ret
    exact ⟨rfl, rfl⟩
  have t3 : decide ((n : Int) < at_) = false := by simp; omega
  have t4 : decide ((n : Int) - at_ < m) = true := by simp; omega
  clear ha
  go_enter Try.func18, Try.ntmps18
  go_wp2
  go_ret
  exact ⟨rfl, rfl⟩

set_option maxHeartbeats 1000000 in
theorem insert_range (w : World) {B g : Nat} {dl nw : Int} {n : Nat} {P D : Value} {p : List UInt8} {due : List Int} (h : Ln w B g dl nw n n P D p due) (at_ : Int) (b : UInt8) (ha : at_ < 0 ∨ (n : Int) < at_) :
    Calls Try.prog 17 #[.pointer (some ⟨g, 0, none⟩), .int .i64 at_, bv b] w fun e w' => e = .returned (.int .i64 1) ∧ w = w' := by
  obtain ⟨AP, cP, rfl, _⟩ := h.hp.form
  have c2 := h.c2
  clear h
  by_cases h0 : at_ < 0
  · have t1 : decide (at_ < 0) = true := by simp; omega
    clear ha
    go_enter Try.func17, Try.ntmps17
    go_wp2
    go_ret
    exact ⟨rfl, rfl⟩
  have t1 : decide (at_ < 0) = false := by simp; omega
  have t3 : decide ((n : Int) < at_) = true := by simp; omega
  clear ha
  go_enter Try.func17, Try.ntmps17
  go_wp2
  go_ret
  exact ⟨rfl, rfl⟩

set_option maxHeartbeats 1000000 in
theorem insert_full (w : World) {B g : Nat} {dl nw : Int} {P D : Value} {p : List UInt8} {due : List Int} (h : Ln w B g dl nw 65536 65536 P D p due) (k : Nat) (b : UInt8) (ha : k ≤ 65536) :
    Calls Try.prog 17 #[.pointer (some ⟨g, 0, none⟩), .int .i64 k, bv b] w fun e w' => e = .returned (.int .i64 6) ∧ w = w' := by
  obtain ⟨AP, cP, rfl, _⟩ := h.hp.form
  have c2 := h.c2
  clear h
  go_enter Try.func17, Try.ntmps17
  go_wp2
  go_ret
  exact ⟨rfl, rfl⟩

set_option maxHeartbeats 2000000 in
theorem drop_ok (w : World) {B g : Nat} {dl nw : Int} {n : Nat} {P D : Value} {p : List UInt8} {due : List Int} (h : Ln w B g dl nw n n P D p due) (hB : B ≤ w.heap.size) (hn : n ≤ 65536) (k m : Nat) (hkm : k + m ≤ n) :
    Calls Try.prog 18 #[.pointer (some ⟨g, 0, none⟩), .int .i64 k, .int .i64 m] w fun e w' => ∃ P' D', e = .returned (.int .i64 0) ∧ Ln w' B g dl nw (n - m) (n - m) P' D' (p.take k ++ p.drop (k + m)) (due.take k ++ due.drop (k + m)) ∧ Kept (fun i => i = g) w w' ∧ Anew w P P' ∧ Anew w D D' := by
  obtain ⟨AP, cP, rfl, hcP⟩ := h.hp.form
  obtain ⟨AD, cD, rfl, hcD⟩ := h.hd.form
  have c2 := h.c2
  have c3 := h.c3
  have glt := h.lt
  have HL := Lib.hid h
  have HP := Lib.hid (h.hp.cells (by omega))
  have HD := Lib.hid (h.hd.cells (by omega))
  have t3 : decide ((n : Int) < (k : Int)) = false := by simp; omega
  have t4 : decide ((n : Int) - (k : Int) < (m : Int)) = false := by simp; omega
  have b1 : k ≤ n - m := by omega
  have b2 : (k : Int) + (m : Int) ≤ (n : Int) := by omega
  have b3 : (0 : Int) ≤ (k : Int) + (m : Int) := by omega
  have e1 : ((k : Int) + (m : Int)).toNat = k + m := by omega
  have hw2 : IntKind.i64.wrap ((k : Int) + (m : Int)) = (k : Int) + (m : Int) := IntWalk.i64_in _ ⟨by omega, by omega⟩
  have hw : IntKind.i64.wrap ((n : Int) - (m : Int)) = (n : Int) - (m : Int) := IntWalk.i64_in _ ⟨by omega, by omega⟩
  clear h
  go_enter Try.func18, Try.ntmps18
  go_wp2_with fail
  refine Free.wp_seq (I := fun w' => Below w.heap.size w w') (Gr := fun w1 w2 => Below w1.heap.size w1 w2) (by kernel_rfl) (by kernel_rfl) (Below.refl _ _).drew ?_
  refine Free.Seq.val ?_ (fun _ => Below.refl _ _) (fun a w1 hI hp => ?_) ?_
  rotate_left
  · have e0 := hp.slotV 0 (by kernel_rfl) rfl; simp at e0
    refine ⟨Free.want_none rfl, ?_⟩
    clear hp
    go_simp
    rfl
  refine Free.Seq.val ?_ (fun _ => Below.refl _ _) (fun a w1 hI hp => ?_) ?_
  rotate_left
  · have e37 := hp.backV 0 0 rfl rfl rfl rfl rfl
    refine ⟨Free.want_none rfl, ?_⟩
    clear hp
    go_simp
    rfl
  refine Free.Seq.val ?_ (fun _ => Below.refl _ _) (fun a w1 hI hp => ?_) ?_
  rotate_left
  · have e38 := hp.backV 1 0 rfl rfl rfl rfl rfl
    refine ⟨Free.want_none rfl, ?_⟩
    clear hp
    go_simp
    rfl
  refine Free.Seq.val ?_ (fun _ => Below.refl _ _) (fun a w1 hI hp => ?_) ?_
  rotate_left
  · have e39 := hp.backV 2 0 rfl rfl rfl rfl rfl
    have k2 := (hI.cell (p := ⟨g, 2, none⟩) glt).trans c2
    refine ⟨Free.want_none rfl, ?_⟩
    clear hp
    go_simp
    rfl
  refine Free.Seq.val ?_ (fun _ => Below.refl _ _) (fun a w1 hI hp => ?_) ?_
  rotate_left
  · have e40 := hp.backV 3 0 rfl rfl rfl rfl rfl
    refine ⟨Free.want_none rfl, ?_⟩
    clear hp
    go_simp
    rfl
  refine Free.Seq.val ?_ (fun _ => Below.refl _ _) (fun a w1 hI hp => ?_) ?_
  rotate_left
  · have e2 := hp.slotV 2 (by kernel_rfl) rfl; simp at e2
    refine ⟨Free.want_none rfl, ?_⟩
    clear hp
    go_simp
    rfl
  refine Free.Seq.val ?_ (fun _ => Below.refl _ _) (fun a w1 hI hp => ?_) ?_
  rotate_left
  · have e41 := hp.backV 4 1 rfl rfl rfl rfl rfl; have e42 := hp.backV 5 0 rfl rfl rfl rfl rfl
    refine ⟨Free.want_none rfl, ?_⟩
    clear hp
    go_simp
    rfl
  refine Free.Seq.op (T := Fresh w 5 (.int .u8 0) (n - m)) (fun v w1 w2 h hb => h.mono _ _ _ hb) (fun a w1 hI hp => ?_) ?_
  · have e43 := hp.backV 6 0 rfl rfl rfl rfl rfl
    have hmk : (Instr.makeSlice 28 (.int .i64 ((n : Int) - (m : Int))) (.int .i64 ((n : Int) - (m : Int)))).run Try.prog w1 = .ok (.slice (some ⟨w1.heap.size, 0, none⟩) (n - m) (n - m)) (w1.alloc (.cells (madeCells #[.int .u8 0] (n - m)) 5)) := by rw [show ((n : Int) - (m : Int)) = ((n - m : Nat) : Int) by omega]; exact run_make_row' 28 5 (.int .u8 0) 1 Try.underlying28 (by kernel_rfl) rfl .i64 .i64 (n - m) (by omega) (by omega) w1
    refine ⟨Free.want_none rfl, (.slice (some ⟨w1.heap.size, 0, none⟩) (n - m) (n - m)), (w1.alloc (.cells (madeCells #[.int .u8 0] (n - m)) 5)), ?_, Fresh.made _ _ _ hI.size, (Below.refl _ _).alloc (Nat.le_refl _) _, hI.alloc hI.size _⟩
    clear hp
    go_simp
  refine Free.Seq.val ?_ (fun _ => Below.refl _ _) (fun a w1 hI hp => ?_) ?_
  rotate_left
  · have e0 := hp.slotV 0 (by kernel_rfl) rfl; simp at e0
    refine ⟨Free.want_none rfl, ?_⟩
    clear hp
    go_simp
    rfl
  refine Free.Seq.val ?_ (fun _ => Below.refl _ _) (fun a w1 hI hp => ?_) ?_
  rotate_left
  · have e45 := hp.backV 8 0 rfl rfl rfl rfl rfl
    refine ⟨Free.want_none rfl, ?_⟩
    clear hp
    go_simp
    rfl
  refine Free.Seq.val ?_ (fun _ => Below.refl _ _) (fun a w1 hI hp => ?_) ?_
  rotate_left
  · have e46 := hp.backV 9 0 rfl rfl rfl rfl rfl
    refine ⟨Free.want_none rfl, ?_⟩
    clear hp
    go_simp
    rfl
  refine Free.Seq.val ?_ (fun _ => Below.refl _ _) (fun a w1 hI hp => ?_) ?_
  rotate_left
  · have e47 := hp.backV 10 0 rfl rfl rfl rfl rfl
    have k2 := (hI.cell (p := ⟨g, 2, none⟩) glt).trans c2
    refine ⟨Free.want_none rfl, ?_⟩
    clear hp
    go_simp
    rfl
  refine Free.Seq.val ?_ (fun _ => Below.refl _ _) (fun a w1 hI hp => ?_) ?_
  rotate_left
  · have e48 := hp.backV 11 0 rfl rfl rfl rfl rfl
    refine ⟨Free.want_none rfl, ?_⟩
    clear hp
    go_simp
    rfl
  refine Free.Seq.val ?_ (fun _ => Below.refl _ _) (fun a w1 hI hp => ?_) ?_
  rotate_left
  · have e2 := hp.slotV 2 (by kernel_rfl) rfl; simp at e2
    refine ⟨Free.want_none rfl, ?_⟩
    clear hp
    go_simp
    rfl
  refine Free.Seq.val ?_ (fun _ => Below.refl _ _) (fun a w1 hI hp => ?_) ?_
  rotate_left
  · have e49 := hp.backV 12 1 rfl rfl rfl rfl rfl; have e50 := hp.backV 13 0 rfl rfl rfl rfl rfl
    refine ⟨Free.want_none rfl, ?_⟩
    clear hp
    go_simp
    rfl
  refine Free.Seq.op (T := Fresh w 3 (.int .i64 0) (n - m)) (fun v w1 w2 h hb => h.mono _ _ _ hb) (fun a w1 hI hp => ?_) ?_
  · have e51 := hp.backV 14 0 rfl rfl rfl rfl rfl
    have hmk : (Instr.makeSlice 29 (.int .i64 ((n : Int) - (m : Int))) (.int .i64 ((n : Int) - (m : Int)))).run Try.prog w1 = .ok (.slice (some ⟨w1.heap.size, 0, none⟩) (n - m) (n - m)) (w1.alloc (.cells (madeCells #[.int .i64 0] (n - m)) 3)) := by rw [show ((n : Int) - (m : Int)) = ((n - m : Nat) : Int) by omega]; exact run_make_row' 29 3 (.int .i64 0) 8 Try.underlying29 (by kernel_rfl) rfl .i64 .i64 (n - m) (by omega) (by omega) w1
    refine ⟨Free.want_none rfl, (.slice (some ⟨w1.heap.size, 0, none⟩) (n - m) (n - m)), (w1.alloc (.cells (madeCells #[.int .i64 0] (n - m)) 3)), ?_, Fresh.made _ _ _ hI.size, (Below.refl _ _).alloc (Nat.le_refl _) _, hI.alloc hI.size _⟩
    clear hp
    go_simp
  refine Free.Seq.op (T := Fresh w 5 (.int .u8 0) (n - m)) (fun v w1 w2 h hb => h.mono _ _ _ hb) (fun a w1 hI hp => ?_) ?_
  · have hx := hp.back 7 8 rfl rfl rfl rfl rfl
    refine ⟨Free.want_none rfl, _, _, ?_, hx, Below.refl _ _, hI⟩
    clear hp
    go_simp
  refine Free.Seq.op (T := Fresh w 3 (.int .i64 0) (n - m)) (fun v w1 w2 h hb => h.mono _ _ _ hb) (fun a w1 hI hp => ?_) ?_
  · have hx := hp.back 15 1 rfl rfl rfl rfl rfl
    refine ⟨Free.want_none rfl, _, _, ?_, hx, Below.refl _ _, hI⟩
    clear hp
    go_simp
  refine Free.Seq.done (by simp) (fun wz hIz => ?_)
  simp only [List.reverse_cons, List.reverse_nil, List.nil_append, List.cons_append, Free.All, Free.eqF, forall_eq]
  rintro x1 - x2 - vP ⟨gP, rfl, hgP, hP⟩ vD ⟨gD, rfl, hgD, hD⟩
  simp only [Free.putL, Act.put, List.setIfInBounds_toArray, List.set_cons_zero, List.set_cons_succ]
  have hne : gP ≠ gD := ty_ne hP hD (by decide)
  have hgPlt : gP < wz.heap.size := (Array.getElem?_eq_some_iff.1 hP).1
  have hgDlt : gD < wz.heap.size := (Array.getElem?_eq_some_iff.1 hD).1
  have HPz := Lib.hid (HP.out.below hIz)
  have HB0 := Lib.hid hIz
  have HP0 := Lib.hid hP
  have HD0 := Lib.hid hD
  have c2z := (HL.out.below hIz).c2
  clear hIz hP hD c2 c3
  go_wp2_with ((with_reducible show wpList _ _ _ (⟨some 60, _, _, _, _, _⟩ :: _) _ _); refine wpList_copyr rfl (.tmp 53) (.tmp 59) 28 rfl 5 Try.underlying28 (by kernel_rfl) rfl rfl gP 0 (List.replicate (n - m) (.int .u8 0)) HP0.out ((bs p).take k) (HPz.out.take1 (by omega)) (fun v hv => bs_one p v (List.mem_of_mem_take hv)) (by omega) (fun _ => rfl) (by simp; omega) ?_; intro w1 HP1 HG1)
  have HB1 := Lib.hid (HB0.out.grown HG1.out (Below.size HB0.out) (by intro i hi; injection hi with hi; omega))
  have c2a := (HL.out.below HB1.out).c2
  have HPa := Lib.hid ((HP.out.below HB1.out).drop1 (k := k + m) (by omega))
  clear c2z
  go_still_tail 11, (by kernel_rfl)
  change wpList _ _ _ _ _ w1.drew
  refine wpList_copyr rfl (.tmp 63) (.tmp 71) 28 rfl 5 Try.underlying28 (by kernel_rfl) rfl rfl gP k (splice (List.replicate (n - m) (.int .u8 0)) 0 ((bs p).take k)) HP1.out ((bs p).drop (k + m)) (HPa.out.stays (.drew w1)) (fun v hv => bs_one p v (List.mem_of_mem_drop hv)) (by omega) (fun h0 => by first | omega | rw [if_neg (by omega)]) (by rw [length_splice _ _ _ (by simp [bs_len]; omega)]; simp; omega) ?_
  intro w2 HP2 HG2
  generalize (if n - m = k then some (⟨gP, 0, none⟩ : Addr) else some ⟨gP, k, none⟩) = z1
  generalize (if cP = k + m then AP else Option.map (fun x => x.add (k + m)) AP) = z2
  have HB2 := Lib.hid (HB1.out.drew.grown HG2.out (Below.size HB1.out.drew) (by intro i hi; injection hi with hi; omega))
  have HD2 := Lib.hid ((HG2.out.block gD (by rw [heap_drew]; exact Nat.lt_of_lt_of_le hgDlt HG1.out.size) (by simpa using Ne.symm hne)).trans ((congrArg (·[gD]?) (heap_drew w1)).trans ((HG1.out.block gD hgDlt (by simpa using Ne.symm hne)).trans HD0.out)))
  have c3a := (HL.out.below HB2.out).c3
  have HDa := Lib.hid (HD.out.below HB2.out)
  clear c2a
  go_wp2_with ((with_reducible show wpList _ _ _ (⟨some 80, _, _, _, _, _⟩ :: _) _ _); refine wpList_copyr rfl (.tmp 73) (.tmp 79) 29 rfl 3 Try.underlying29 (by kernel_rfl) rfl rfl gD 0 (List.replicate (n - m) (.int .i64 0)) HD2.out ((is due).take k) (HDa.out.take1 (by omega)) (fun v hv => is_one due v (List.mem_of_mem_take hv)) (by omega) (fun _ => rfl) (by simp; omega) ?_; intro w3 HD3 HG3)
  have HB3 := Lib.hid (HB2.out.grown HG3.out (Below.size HB2.out) (by intro i hi; injection hi with hi; omega))
  have HP3 := Lib.hid ((HG3.out.block gP (Nat.lt_of_lt_of_le hgPlt (Nat.le_trans HG1.out.size (by have := HG2.out.size; rwa [heap_drew] at this))) (by simpa using hne)).trans HP2.out)
  have c3b := (HL.out.below HB3.out).c3
  have HDb := Lib.hid ((HD.out.below HB3.out).drop1 (k := k + m) (by omega))
  clear c3a
  go_still_tail 11, (by kernel_rfl)
  change wpList _ _ _ _ _ w3.drew
  refine wpList_copyr rfl (.tmp 83) (.tmp 91) 29 rfl 3 Try.underlying29 (by kernel_rfl) rfl rfl gD k (splice (List.replicate (n - m) (.int .i64 0)) 0 ((is due).take k)) HD3.out ((is due).drop (k + m)) (HDb.out.stays (.drew w3)) (fun v hv => is_one due v (List.mem_of_mem_drop hv)) (by omega) (fun h0 => by first | omega | rw [if_neg (by omega)]) (by rw [length_splice _ _ _ (by simp [is_len]; omega)]; simp; omega) ?_
  intro w4 HD4 HG4
  generalize (if n - m = k then some (⟨gD, 0, none⟩ : Addr) else some ⟨gD, k, none⟩) = z3
  generalize (if cD = k + m then AD else Option.map (fun x => x.add (k + m)) AD) = z4
  have HB4 := Lib.hid (HB3.out.drew.grown HG4.out (Below.size HB3.out.drew) (by intro i hi; injection hi with hi; omega))
  have HP4 := Lib.hid ((HG4.out.block gP (by rw [heap_drew]; exact (Array.getElem?_eq_some_iff.1 HP3.out).1) (by simpa using hne)).trans ((congrArg (·[gP]?) (heap_drew w3)).trans HP3.out))
  have HL4 := Lib.hid (HL.out.below HB4.out)
  have c2e := HL4.out.c2
  have c3e := HL4.out.c3
  have f2 := HL4.out.fr 2
  have f3 := HL4.out.fr 3
  clear c3b
  go_wp2
  go_ret
  have hpl := HL.out.plen
  have hdl := HL.out.dlen
  have e1 := splice_two (List.replicate (n - m) (Value.int .u8 0)) ((bs p).take k) ((bs p).drop (k + m)) k (by simp [bs_len]; omega) (by simp [bs_len]; omega)
  have e2 := splice_two (List.replicate (n - m) (Value.int .i64 0)) ((is due).take k) ((is due).drop (k + m)) k (by simp [is_len]; omega) (by simp [is_len]; omega)
  have hP4 := HP4.out
  have hD4 := HD4.out
  rw [e1] at hP4
  rw [e2] at hD4
  have eb : (bs p).take k ++ (bs p).drop (k + m) = bs (p.take k ++ p.drop (k + m)) := by simp [bs, List.map_take, List.map_drop]
  have ei : (is due).take k ++ (is due).drop (k + m) = is (due.take k ++ due.drop (k + m)) := by simp [is, List.map_take, List.map_drop]
  rw [eb] at hP4
  rw [ei] at hD4
  refine ⟨_, _, rfl, HL4.out.set23 (Sl.of_heap hP4 (Nat.le_trans hB hgP) (by rw [bs_len, List.length_append, List.length_take, List.length_drop]; omega) (by unfold maxLen; omega)) (Sl.of_heap hD4 (Nat.le_trans hB hgD) (by rw [is_len, List.length_append, List.length_take, List.length_drop]; omega) (by unfold maxLen; omega)), ((Kept.all (S := fun i => i = g) HB4.out).setCell (p := ⟨g, 2, none⟩) (.inl rfl) _).setCell (p := ⟨g, 3, none⟩) (.inl rfl) _, ?_, ?_⟩
  · intro i hi
    simp [Value.ownBlock] at hi
    exact .inr (by omega)
  · intro i hi
    simp [Value.ownBlock] at hi
    exact .inr (by omega)

set_option maxHeartbeats 2000000 in
theorem insert_ok (w : World) {B g : Nat} {dl nw : Int} {n : Nat} {P D : Value} {p : List UInt8} {due : List Int} (h : Ln w B g dl nw n n P D p due) (hB : B ≤ w.heap.size) (hn : n < 65536) (h0 : 0 ≤ nw) (h1 : nw ≤ 70368744177000) (h2 : 0 ≤ dl) (h3 : dl ≤ 64)
    (k : Nat) (hk : k ≤ n) (b : UInt8) (x : Int) (hx0 : n = 0 → x = nw + dl) (hx1 : 0 < n → due[min k (n - 1)]? = some x) :
    Calls Try.prog 17 #[.pointer (some ⟨g, 0, none⟩), .int .i64 k, bv b] w fun e w' => ∃ P' D', e = .returned (.int .i64 0) ∧ Ln w' B g dl nw (n + 1) (n + 1) P' D' (p.take k ++ b :: p.drop k) (due.take k ++ x :: due.drop k) ∧ Kept (fun i => i = g) w w' ∧ Anew w P P' ∧ Anew w D D' := by
  obtain ⟨AP, cP, rfl, hcP⟩ := h.hp.form
  obtain ⟨AD, cD, rfl, hcD⟩ := h.hd.form
  have c0 := h.c0
  have c1 := h.c1
  have c2 := h.c2
  have c3 := h.c3
  have glt := h.lt
  have HL := Lib.hid h
  have HP := Lib.hid (h.hp.cells (by omega))
  have HD := Lib.hid (h.hd.cells (by omega))
  have t3 : decide ((n : Int) < (k : Int)) = false := by simp; omega
  have t5 : ((n : Int) == 65536) = false := by simp; omega
  have b1 : k + 1 ≤ n + 1 := by omega
  have b2 : (k : Int) + 1 ≤ (n : Int) + 1 := by omega
  have b3 : (0 : Int) ≤ (k : Int) + 1 := by omega
  have b4 : (k : Int) ≤ (n : Int) := by omega
  have e1 : ((k : Int) + 1).toNat = k + 1 := by omega
  have hw2 : IntKind.i64.wrap ((k : Int) + 1) = (k : Int) + 1 := IntWalk.i64_in _ ⟨by omega, by omega⟩
  have hw : IntKind.i64.wrap ((n : Int) + 1) = (n : Int) + 1 := IntWalk.i64_in _ ⟨by omega, by omega⟩
  have hw3 : IntKind.i64.wrap ((n : Int) - 1) = (n : Int) - 1 := IntWalk.i64_in _ ⟨by omega, by omega⟩
  have hwr : IntKind.i64.wrap (nw + dl) = nw + dl := IntWalk.i64_in _ ⟨by omega, by omega⟩
  have HX0 := Lib.hid hx0
  have HX1 := Lib.hid hx1
  clear h hx0 hx1
  go_enter Try.func17, Try.ntmps17
  go_wp2_with fail
  refine Free.wp_seq (I := fun w' => Below w.heap.size w w') (Gr := fun w1 w2 => Below w1.heap.size w1 w2) (by kernel_rfl) (by kernel_rfl) (Below.refl _ _).drew ?_
  refine Free.Seq.val ?_ (fun _ => Below.refl _ _) (fun a w1 hI hp => ?_) ?_
  rotate_left
  · have e0 := hp.slotV 0 (by kernel_rfl) rfl; simp at e0
    refine ⟨Free.want_none rfl, ?_⟩
    clear hp
    go_simp
    rfl
  refine Free.Seq.val ?_ (fun _ => Below.refl _ _) (fun a w1 hI hp => ?_) ?_
  rotate_left
  · have e32 := hp.backV 0 0 rfl rfl rfl rfl rfl
    refine ⟨Free.want_none rfl, ?_⟩
    clear hp
    go_simp
    rfl
  refine Free.Seq.val ?_ (fun _ => Below.refl _ _) (fun a w1 hI hp => ?_) ?_
  rotate_left
  · have e33 := hp.backV 1 0 rfl rfl rfl rfl rfl
    refine ⟨Free.want_none rfl, ?_⟩
    clear hp
    go_simp
    rfl
  refine Free.Seq.val ?_ (fun _ => Below.refl _ _) (fun a w1 hI hp => ?_) ?_
  rotate_left
  · have e34 := hp.backV 2 0 rfl rfl rfl rfl rfl
    have k1 := (hI.cell (p := ⟨g, 1, none⟩) glt).trans c1
    refine ⟨Free.want_none rfl, ?_⟩
    clear hp
    go_simp
    rfl
  refine Free.Seq.val ?_ (fun _ => Below.refl _ _) (fun a w1 hI hp => ?_) ?_
  rotate_left
  · have e0 := hp.slotV 0 (by kernel_rfl) rfl; simp at e0
    refine ⟨Free.want_none rfl, ?_⟩
    clear hp
    go_simp
    rfl
  refine Free.Seq.val ?_ (fun _ => Below.refl _ _) (fun a w1 hI hp => ?_) ?_
  rotate_left
  · have e36 := hp.backV 4 0 rfl rfl rfl rfl rfl
    refine ⟨Free.want_none rfl, ?_⟩
    clear hp
    go_simp
    rfl
  refine Free.Seq.val ?_ (fun _ => Below.refl _ _) (fun a w1 hI hp => ?_) ?_
  rotate_left
  · have e37 := hp.backV 5 0 rfl rfl rfl rfl rfl
    refine ⟨Free.want_none rfl, ?_⟩
    clear hp
    go_simp
    rfl
  refine Free.Seq.val ?_ (fun _ => Below.refl _ _) (fun a w1 hI hp => ?_) ?_
  rotate_left
  · have e38 := hp.backV 6 0 rfl rfl rfl rfl rfl
    have k0 := (hI.cell (p := ⟨g, 0, none⟩) glt).trans c0
    refine ⟨Free.want_none rfl, ?_⟩
    clear hp
    go_simp
    rfl
  refine Free.Seq.val ?_ (fun _ => Below.refl _ _) (fun a w1 hI hp => ?_) ?_
  rotate_left
  · have e35 := hp.backV 3 4 rfl rfl rfl rfl rfl; have e39 := hp.backV 7 0 rfl rfl rfl rfl rfl
    refine ⟨Free.want_none rfl, ?_⟩
    clear hp
    go_simp
    rfl
  refine Free.Seq.val ?_ (fun _ => Below.refl _ _) (fun a w1 hI hp => ?_) ?_
  rotate_left
  · have e40 := hp.backV 8 0 rfl rfl rfl rfl rfl
    refine ⟨Free.want_none rfl, ?_⟩
    clear hp
    go_simp
    rfl
  refine Free.Seq.done (by simp) (fun wz hIz => ?_)
  simp only [List.reverse_cons, List.reverse_nil, List.nil_append, List.cons_append, Free.All, Free.eqF, forall_eq]
  skip
  simp only [Free.putL, Act.put, List.setIfInBounds_toArray, List.set_cons_zero, List.set_cons_succ]
  have c2y := (HL.out.below hIz).c2
  rcases Nat.eq_zero_or_pos n with hn0 | hn0
  · have t6 : decide (0 < n) = false := by simp; omega
    obtain rfl : x = nw + dl := HX0.out hn0
    clear hn0
    go_wp2_with fail
    refine Free.wp_seq (I := fun w' => Below w.heap.size w w') (Gr := fun w1 w2 => Below w1.heap.size w1 w2) (by kernel_rfl) (by kernel_rfl) hIz.drew ?_
    refine Free.Seq.val ?_ (fun _ => Below.refl _ _) (fun a w1 hI hp => ?_) ?_
    rotate_left
    · have e0 := hp.slotV 0 (by kernel_rfl) rfl; simp at e0
      refine ⟨Free.want_none rfl, ?_⟩
      clear hp
      go_simp
      rfl
    refine Free.Seq.val ?_ (fun _ => Below.refl _ _) (fun a w1 hI hp => ?_) ?_
    rotate_left
    · have e61 := hp.backV 0 0 rfl rfl rfl rfl rfl
      refine ⟨Free.want_none rfl, ?_⟩
      clear hp
      go_simp
      rfl
    refine Free.Seq.val ?_ (fun _ => Below.refl _ _) (fun a w1 hI hp => ?_) ?_
    rotate_left
    · have e62 := hp.backV 1 0 rfl rfl rfl rfl rfl
      refine ⟨Free.want_none rfl, ?_⟩
      clear hp
      go_simp
      rfl
    refine Free.Seq.val ?_ (fun _ => Below.refl _ _) (fun a w1 hI hp => ?_) ?_
    rotate_left
    · have e63 := hp.backV 2 0 rfl rfl rfl rfl rfl
      have k2 := (hI.cell (p := ⟨g, 2, none⟩) glt).trans c2
      refine ⟨Free.want_none rfl, ?_⟩
      clear hp
      go_simp
      rfl
    refine Free.Seq.val ?_ (fun _ => Below.refl _ _) (fun a w1 hI hp => ?_) ?_
    rotate_left
    · have e64 := hp.backV 3 0 rfl rfl rfl rfl rfl
      refine ⟨Free.want_none rfl, ?_⟩
      clear hp
      go_simp
      rfl
    refine Free.Seq.val ?_ (fun _ => Below.refl _ _) (fun a w1 hI hp => ?_) ?_
    rotate_left
    · have e65 := hp.backV 4 0 rfl rfl rfl rfl rfl
      refine ⟨Free.want_none rfl, ?_⟩
      clear hp
      go_simp
      rfl
    refine Free.Seq.op (T := Fresh w 5 (.int .u8 0) (n + 1)) (fun v w1 w2 h hb => h.mono _ _ _ hb) (fun a w1 hI hp => ?_) ?_
    · have e66 := hp.backV 5 0 rfl rfl rfl rfl rfl
      have hmk : (Instr.makeSlice 28 (.int .i64 ((n : Int) + 1)) (.int .i64 ((n : Int) + 1))).run Try.prog w1 = .ok (.slice (some ⟨w1.heap.size, 0, none⟩) (n + 1) (n + 1)) (w1.alloc (.cells (madeCells #[.int .u8 0] (n + 1)) 5)) := by rw [show ((n : Int) + 1) = ((n + 1 : Nat) : Int) by omega]; exact run_make_row' 28 5 (.int .u8 0) 1 Try.underlying28 (by kernel_rfl) rfl .i64 .i64 (n + 1) (by omega) (by omega) w1
      refine ⟨Free.want_none rfl, (.slice (some ⟨w1.heap.size, 0, none⟩) (n + 1) (n + 1)), (w1.alloc (.cells (madeCells #[.int .u8 0] (n + 1)) 5)), ?_, Fresh.made _ _ _ hI.size, (Below.refl _ _).alloc (Nat.le_refl _) _, hI.alloc hI.size _⟩
      clear hp
      go_simp
    refine Free.Seq.val ?_ (fun _ => Below.refl _ _) (fun a w1 hI hp => ?_) ?_
    rotate_left
    · have e0 := hp.slotV 0 (by kernel_rfl) rfl; simp at e0
      refine ⟨Free.want_none rfl, ?_⟩
      clear hp
      go_simp
      rfl
    refine Free.Seq.val ?_ (fun _ => Below.refl _ _) (fun a w1 hI hp => ?_) ?_
    rotate_left
    · have e68 := hp.backV 7 0 rfl rfl rfl rfl rfl
      refine ⟨Free.want_none rfl, ?_⟩
      clear hp
      go_simp
      rfl
    refine Free.Seq.val ?_ (fun _ => Below.refl _ _) (fun a w1 hI hp => ?_) ?_
    rotate_left
    · have e69 := hp.backV 8 0 rfl rfl rfl rfl rfl
      refine ⟨Free.want_none rfl, ?_⟩
      clear hp
      go_simp
      rfl
    refine Free.Seq.val ?_ (fun _ => Below.refl _ _) (fun a w1 hI hp => ?_) ?_
    rotate_left
    · have e70 := hp.backV 9 0 rfl rfl rfl rfl rfl
      have k2 := (hI.cell (p := ⟨g, 2, none⟩) glt).trans c2
      refine ⟨Free.want_none rfl, ?_⟩
      clear hp
      go_simp
      rfl
    refine Free.Seq.val ?_ (fun _ => Below.refl _ _) (fun a w1 hI hp => ?_) ?_
    rotate_left
    · have e71 := hp.backV 10 0 rfl rfl rfl rfl rfl
      refine ⟨Free.want_none rfl, ?_⟩
      clear hp
      go_simp
      rfl
    refine Free.Seq.val ?_ (fun _ => Below.refl _ _) (fun a w1 hI hp => ?_) ?_
    rotate_left
    · have e72 := hp.backV 11 0 rfl rfl rfl rfl rfl
      refine ⟨Free.want_none rfl, ?_⟩
      clear hp
      go_simp
      rfl
    refine Free.Seq.op (T := Fresh w 3 (.int .i64 0) (n + 1)) (fun v w1 w2 h hb => h.mono _ _ _ hb) (fun a w1 hI hp => ?_) ?_
    · have e73 := hp.backV 12 0 rfl rfl rfl rfl rfl
      have hmk : (Instr.makeSlice 29 (.int .i64 ((n : Int) + 1)) (.int .i64 ((n : Int) + 1))).run Try.prog w1 = .ok (.slice (some ⟨w1.heap.size, 0, none⟩) (n + 1) (n + 1)) (w1.alloc (.cells (madeCells #[.int .i64 0] (n + 1)) 3)) := by rw [show ((n : Int) + 1) = ((n + 1 : Nat) : Int) by omega]; exact run_make_row' 29 3 (.int .i64 0) 8 Try.underlying29 (by kernel_rfl) rfl .i64 .i64 (n + 1) (by omega) (by omega) w1
      refine ⟨Free.want_none rfl, (.slice (some ⟨w1.heap.size, 0, none⟩) (n + 1) (n + 1)), (w1.alloc (.cells (madeCells #[.int .i64 0] (n + 1)) 3)), ?_, Fresh.made _ _ _ hI.size, (Below.refl _ _).alloc (Nat.le_refl _) _, hI.alloc hI.size _⟩
      clear hp
      go_simp
    refine Free.Seq.op (T := Fresh w 5 (.int .u8 0) (n + 1)) (fun v w1 w2 h hb => h.mono _ _ _ hb) (fun a w1 hI hp => ?_) ?_
    · have hx := hp.back 6 7 rfl rfl rfl rfl rfl
      refine ⟨Free.want_none rfl, _, _, ?_, hx, Below.refl _ _, hI⟩
      clear hp
      go_simp
    refine Free.Seq.op (T := Fresh w 3 (.int .i64 0) (n + 1)) (fun v w1 w2 h hb => h.mono _ _ _ hb) (fun a w1 hI hp => ?_) ?_
    · have hx := hp.back 13 1 rfl rfl rfl rfl rfl
      refine ⟨Free.want_none rfl, _, _, ?_, hx, Below.refl _ _, hI⟩
      clear hp
      go_simp
    refine Free.Seq.done (by simp) (fun wz hIz => ?_)
    simp only [List.reverse_cons, List.reverse_nil, List.nil_append, List.cons_append, Free.All, Free.eqF, forall_eq]
    rintro x1 - x2 - vP ⟨gP, rfl, hgP, hP⟩ vD ⟨gD, rfl, hgD, hD⟩
    simp only [Free.putL, Act.put, List.setIfInBounds_toArray, List.set_cons_zero, List.set_cons_succ]
    have hne : gP ≠ gD := ty_ne hP hD (by decide)
    have hgPlt : gP < wz.heap.size := (Array.getElem?_eq_some_iff.1 hP).1
    have hgDlt : gD < wz.heap.size := (Array.getElem?_eq_some_iff.1 hD).1
    have HPz := Lib.hid (HP.out.below hIz)
    have HB0 := Lib.hid hIz
    have HP0 := Lib.hid hP
    have HD0 := Lib.hid hD
    have c2z := (HL.out.below hIz).c2
    clear hIz hP hD c2 c3 c0 c1 c2y
    go_wp2_with ((with_reducible show wpList _ _ _ (⟨some 82, _, _, _, _, _⟩ :: _) _ _); refine wpList_copyr rfl (.tmp 75) (.tmp 81) 28 rfl 5 Try.underlying28 (by kernel_rfl) rfl rfl gP 0 (List.replicate (n + 1) (.int .u8 0)) HP0.out ((bs p).take k) (HPz.out.take1 (by omega)) (fun v hv => bs_one p v (List.mem_of_mem_take hv)) (by omega) (fun _ => rfl) (by simp; omega) ?_; intro w1 HP1 HG1)
    have HB1 := Lib.hid (HB0.out.grown HG1.out (Below.size HB0.out) (by intro i hi; injection hi with hi; omega))
    have c2a := (HL.out.below HB1.out).c2
    have HPa := Lib.hid ((HP.out.below HB1.out).drop1 (k := k) (by omega))
    clear c2z
    go_still_tail 10, (by kernel_rfl)
    change wpList _ _ _ _ _ w1.drew
    refine wpList_copyr rfl (.tmp 86) (.tmp 92) 28 rfl 5 Try.underlying28 (by kernel_rfl) rfl rfl gP (k + 1) (splice (List.replicate (n + 1) (.int .u8 0)) 0 ((bs p).take k)) HP1.out ((bs p).drop k) (HPa.out.stays (.drew w1)) (fun v hv => bs_one p v (List.mem_of_mem_drop hv)) (by omega) (fun h0 => by first | omega | rw [if_neg (by omega)]) (by rw [length_splice _ _ _ (by simp [bs_len]; omega)]; simp; omega) ?_
    intro w2 HP2 HG2
    generalize (if n = k then some (⟨gP, 0, none⟩ : Addr) else some ⟨gP, k + 1, none⟩) = z1
    generalize (if cP = k then AP else Option.map (fun x => x.add k) AP) = z2
    have HB2 := Lib.hid (HB1.out.drew.grown HG2.out (Below.size HB1.out.drew) (by intro i hi; injection hi with hi; omega))
    have HD2 := Lib.hid ((HG2.out.block gD (by rw [heap_drew]; exact Nat.lt_of_lt_of_le hgDlt HG1.out.size) (by simpa using Ne.symm hne)).trans ((congrArg (·[gD]?) (heap_drew w1)).trans ((HG1.out.block gD hgDlt (by simpa using Ne.symm hne)).trans HD0.out)))
    have c3a := (HL.out.below HB2.out).c3
    have HDa := Lib.hid (HD.out.below HB2.out)
    clear c2a
    go_wp2_with ((with_reducible show wpList _ _ _ (⟨some 101, _, _, _, _, _⟩ :: _) _ _); refine wpList_copyr rfl (.tmp 94) (.tmp 100) 29 rfl 3 Try.underlying29 (by kernel_rfl) rfl rfl gD 0 (List.replicate (n + 1) (.int .i64 0)) HD2.out ((is due).take k) (HDa.out.take1 (by omega)) (fun v hv => is_one due v (List.mem_of_mem_take hv)) (by omega) (fun _ => rfl) (by simp; omega) ?_; intro w3 HD3 HG3)
    have HB3 := Lib.hid (HB2.out.grown HG3.out (Below.size HB2.out) (by intro i hi; injection hi with hi; omega))
    have HP3 := Lib.hid ((HG3.out.block gP (Nat.lt_of_lt_of_le hgPlt (Nat.le_trans HG1.out.size (by have := HG2.out.size; rwa [heap_drew] at this))) (by simpa using hne)).trans HP2.out)
    have c3b := (HL.out.below HB3.out).c3
    have HDb := Lib.hid ((HD.out.below HB3.out).drop1 (k := k) (by omega))
    clear c3a
    go_still_tail 10, (by kernel_rfl)
    change wpList _ _ _ _ _ w3.drew
    refine wpList_copyr rfl (.tmp 105) (.tmp 111) 29 rfl 3 Try.underlying29 (by kernel_rfl) rfl rfl gD (k + 1) (splice (List.replicate (n + 1) (.int .i64 0)) 0 ((is due).take k)) HD3.out ((is due).drop k) (by have := HDb.out.stays (.drew w3); simpa [add_none] using this) (fun v hv => is_one due v (List.mem_of_mem_drop hv)) (by omega) (fun h0 => by first | omega | rw [if_neg (by omega)]) (by rw [length_splice _ _ _ (by simp [is_len]; omega)]; simp; omega) ?_
    intro w4 HD4 HG4
    generalize (if n = k then some (⟨gD, 0, none⟩ : Addr) else some ⟨gD, k + 1, none⟩) = z3
    generalize (if cD = k then AD else Option.map (fun x => x.add k) AD) = z4
    have HB4 := Lib.hid (HB3.out.drew.grown HG4.out (Below.size HB3.out.drew) (by intro i hi; injection hi with hi; omega))
    have HP4 := Lib.hid ((HG4.out.block gP (by rw [heap_drew]; exact (Array.getElem?_eq_some_iff.1 HP3.out).1) (by simpa using hne)).trans ((congrArg (·[gP]?) (heap_drew w3)).trans HP3.out))
    have HL4 := Lib.hid (HL.out.below HB4.out)
    have hpl := Lib.hid HL.out.plen
    have hdl := Lib.hid HL.out.dlen
    obtain ⟨SP, hSP⟩ : ∃ SP, SP = splice (splice (List.replicate (n + 1) (Value.int .u8 0)) 0 ((bs p).take k)) (k + 1) ((bs p).drop k) := ⟨_, rfl⟩
    obtain ⟨SD, hSD⟩ : ∃ SD, SD = splice (splice (List.replicate (n + 1) (Value.int .i64 0)) 0 ((is due).take k)) (k + 1) ((is due).drop k) := ⟨_, rfl⟩
    have hSPl : SP.length = n + 1 := by
      have := hpl.out
      rw [hSP, length_splice _ _ _ (by rw [length_splice _ _ _ (by simp [bs_len]; omega)]; simp [bs_len]; omega), length_splice _ _ _ (by simp [bs_len]; omega)]
      simp
    have hSDl : SD.length = n + 1 := by
      have := hdl.out
      rw [hSD, length_splice _ _ _ (by rw [length_splice _ _ _ (by simp [is_len]; omega)]; simp [is_len]; omega), length_splice _ _ _ (by simp [is_len]; omega)]
      simp
    have e1 := splice_gap (List.replicate (n + 1) (Value.int .u8 0)) ((bs p).take k) ((bs p).drop k) (bv b) k (by have := hpl.out; simp [bs_len]; omega) (by have := hpl.out; simp [bs_len]; omega)
    have e2 := splice_gap (List.replicate (n + 1) (Value.int .i64 0)) ((is due).take k) ((is due).drop k) (.int .i64 (nw + dl)) k (by have := hdl.out; simp [is_len]; omega) (by have := hdl.out; simp [is_len]; omega)
    have hP4 := HP4.out
    have hD4 := HD4.out
    rw [← hSP] at hP4 e1
    rw [← hSD] at hD4 e2
    clear HP4 HD4 hSP hSD
    have HP4 := Lib.hid hP4
    have HD4 := Lib.hid hD4
    have E1 := Lib.hid e1
    have E2 := Lib.hid e2
    have c2e := HL4.out.c2
    have c3e := HL4.out.c3
    have f2 := HL4.out.fr 2
    have f3 := HL4.out.fr 3
    have cPk : w4.cell? ⟨gP, k, none⟩ = some (SP[k]'(by omega)) := by rw [cell_of_cells hP4]; simp
    have cDk : w4.cell? ⟨gD, k, none⟩ = some (SD[k]'(by omega)) := by rw [cell_of_cells hD4]; simp
    generalize SP[k]'(by omega) = yP at cPk
    generalize SD[k]'(by omega) = yD at cDk
    have fP : w4.frozen? ⟨gP, k, none⟩ = false := frozen_of_row w4 gP k _ _ hP4
    have fD : w4.frozen? ⟨gD, k, none⟩ = false := frozen_of_row w4 gD k _ _ hD4
    have hgg : gP ≠ g := by omega
    have hgg' : gD ≠ g := by omega
    have hkn : k < n + 1 := by omega
    clear hP4 hD4 c3b e1 e2 hSPl hSDl
    go_wp2
    go_ret
    have HB5 := (HB4.out.setCell (p := ⟨gP, k, none⟩) hgP (bv b)).setCell (p := ⟨gD, k, none⟩) hgD (.int .i64 (nw + dl))
    have hPf : ((w4.setCell ⟨gP, k, none⟩ (bv b)).setCell ⟨gD, k, none⟩ (.int .i64 (nw + dl))).heap[gP]? = some (.cells (bs (p.take k ++ b :: p.drop k)).toArray 5 (0, 0)) := by
      rw [heap_setCell_other _ _ _ _ (by exact hne), heap_setCell_same w4 gP k _ _ _ HP4.out, List.setIfInBounds_toArray, E1.out]
      simp [bs, List.map_take, List.map_drop]
    have hDf : ((w4.setCell ⟨gP, k, none⟩ (bv b)).setCell ⟨gD, k, none⟩ (.int .i64 (nw + dl))).heap[gD]? = some (.cells (is (due.take k ++ (nw + dl) :: due.drop k)).toArray 3 (0, 0)) := by
      rw [heap_setCell_same _ gD k _ _ _ ((heap_setCell_other _ _ _ _ (by exact Ne.symm hne)).trans HD4.out), List.setIfInBounds_toArray, E2.out]
      simp [is, List.map_take, List.map_drop]
    have hpl' := hpl.out
    have hdl' := hdl.out
    refine ⟨_, _, rfl, (HL.out.below HB5).set23 (Sl.of_heap hPf (Nat.le_trans hB hgP) (by simp [bs_len]; omega) (by unfold maxLen; omega)) (Sl.of_heap hDf (Nat.le_trans hB hgD) (by simp [is_len]; omega) (by unfold maxLen; omega)), ((Kept.all (S := fun i => i = g) HB5).setCell (p := ⟨g, 2, none⟩) (.inl rfl) _).setCell (p := ⟨g, 3, none⟩) (.inl rfl) _, ?_, ?_⟩
    · intro i hi
      simp [Value.ownBlock] at hi
      exact .inr (by omega)
    · intro i hi
      simp [Value.ownBlock] at hi
      exact .inr (by omega)

  · have t6 : decide (0 < n) = true := by simp; omega
    obtain ⟨gd, off, rfl, hBd, hgd, hcell⟩ := HL.out.hd.cell (by omega)
    obtain ⟨j, hj⟩ : ∃ j, j = min k (n - 1) := ⟨_, rfl⟩
    have hxx := HX1.out hn0
    rw [← hj] at hxx
    have hc := hcell j (.int .i64 x) (by simp [is, hxx])
    have hjn : j < n := by omega
    have HJ := Lib.hid hj
    clear hcell hxx hj
    go_wp2_with fail
    refine Free.wp_seq (I := fun w' => Below w.heap.size w w') (Gr := fun w1 w2 => Below w1.heap.size w1 w2) (by kernel_rfl) (by kernel_rfl) hIz.drew ?_
    refine Free.Seq.val ?_ (fun _ => Below.refl _ _) (fun a w1 hI hp => ?_) ?_
    rotate_left
    · have e0 := hp.slotV 0 (by kernel_rfl) rfl; simp at e0
      refine ⟨Free.want_none rfl, ?_⟩
      clear hp
      go_simp
      rfl
    refine Free.Seq.val ?_ (fun _ => Below.refl _ _) (fun a w1 hI hp => ?_) ?_
    rotate_left
    · have e47 := hp.backV 0 0 rfl rfl rfl rfl rfl
      refine ⟨Free.want_none rfl, ?_⟩
      clear hp
      go_simp
      rfl
    refine Free.Seq.val ?_ (fun _ => Below.refl _ _) (fun a w1 hI hp => ?_) ?_
    rotate_left
    · have e48 := hp.backV 1 0 rfl rfl rfl rfl rfl
      refine ⟨Free.want_none rfl, ?_⟩
      clear hp
      go_simp
      rfl
    refine Free.Seq.val ?_ (fun _ => Below.refl _ _) (fun a w1 hI hp => ?_) ?_
    rotate_left
    · have e49 := hp.backV 2 0 rfl rfl rfl rfl rfl
      have k3 := (hI.cell (p := ⟨g, 3, none⟩) glt).trans c3
      refine ⟨Free.want_none rfl, ?_⟩
      clear hp
      go_simp
      rfl
    refine Free.Seq.val ?_ (fun _ => Below.refl _ _) (fun a w1 hI hp => ?_) ?_
    rotate_left
    · have e1 := hp.slotV 1 (by kernel_rfl) rfl; simp at e1
      refine ⟨Free.want_none rfl, ?_⟩
      clear hp
      go_simp
      rfl
    refine Free.Seq.val ?_ (fun _ => Below.refl _ _) (fun a w1 hI hp => ?_) ?_
    rotate_left
    · have e0 := hp.slotV 0 (by kernel_rfl) rfl; simp at e0
      refine ⟨Free.want_none rfl, ?_⟩
      clear hp
      go_simp
      rfl
    refine Free.Seq.val ?_ (fun _ => Below.refl _ _) (fun a w1 hI hp => ?_) ?_
    rotate_left
    · have e52 := hp.backV 5 0 rfl rfl rfl rfl rfl
      refine ⟨Free.want_none rfl, ?_⟩
      clear hp
      go_simp
      rfl
    refine Free.Seq.val ?_ (fun _ => Below.refl _ _) (fun a w1 hI hp => ?_) ?_
    rotate_left
    · have e53 := hp.backV 6 0 rfl rfl rfl rfl rfl
      refine ⟨Free.want_none rfl, ?_⟩
      clear hp
      go_simp
      rfl
    refine Free.Seq.val ?_ (fun _ => Below.refl _ _) (fun a w1 hI hp => ?_) ?_
    rotate_left
    · have e54 := hp.backV 7 0 rfl rfl rfl rfl rfl
      have k2 := (hI.cell (p := ⟨g, 2, none⟩) glt).trans c2
      refine ⟨Free.want_none rfl, ?_⟩
      clear hp
      go_simp
      rfl
    refine Free.Seq.val ?_ (fun _ => Below.refl _ _) (fun a w1 hI hp => ?_) ?_
    rotate_left
    · have e55 := hp.backV 8 0 rfl rfl rfl rfl rfl
      refine ⟨Free.want_none rfl, ?_⟩
      clear hp
      go_simp
      rfl
    refine Free.Seq.val ?_ (fun _ => Below.refl _ _) (fun a w1 hI hp => ?_) ?_
    rotate_left
    · have e56 := hp.backV 9 0 rfl rfl rfl rfl rfl
      refine ⟨Free.want_none rfl, ?_⟩
      clear hp
      go_simp
      rfl
    refine Free.Seq.val (.int .i64 (j : Int)) (fun _ => Below.refl _ _) (fun a w1 hI hp => ?_) ?_
    · have e51 := hp.backV 4 6 rfl rfl rfl rfl rfl; have e57 := hp.backV 10 0 rfl rfl rfl rfl rfl
      refine ⟨Free.want_none rfl, ?_⟩
      clear hp
      go_simp
      have hj := HJ.out
      first | rfl | omega | (split <;> first | rfl | omega)
    refine Free.Seq.val ?_ (fun _ => Below.refl _ _) (fun a w1 hI hp => ?_) ?_
    rotate_left
    · have e50 := hp.backV 3 8 rfl rfl rfl rfl rfl; have e58 := hp.backV 11 0 rfl rfl rfl rfl rfl
      refine ⟨Free.want_none rfl, ?_⟩
      clear hp
      go_simp
      rfl
    refine Free.Seq.val ?_ (fun _ => Below.refl _ _) (fun a w1 hI hp => ?_) ?_
    rotate_left
    · have e59 := hp.backV 12 0 rfl rfl rfl rfl rfl
      have k9 := (hI.cell (p := ⟨gd, off + j, none⟩) hgd).trans hc
      refine ⟨Free.want_none rfl, ?_⟩
      clear hp
      go_simp
      rfl
    refine Free.Seq.val ?_ (fun _ => Below.refl _ _) (fun a w1 hI hp => ?_) ?_
    rotate_left
    · have e60 := hp.backV 13 0 rfl rfl rfl rfl rfl
      refine ⟨Free.want_none rfl, ?_⟩
      clear hp
      go_simp
      rfl
    refine Free.Seq.done (by simp) (fun wz hIz => ?_)
    simp only [List.reverse_cons, List.reverse_nil, List.nil_append, List.cons_append, Free.All, Free.eqF, forall_eq]
    skip
    simp only [Free.putL, Act.put, List.setIfInBounds_toArray, List.set_cons_zero, List.set_cons_succ]
    clear c2y
    have c2y := (HL.out.below hIz).c2
    go_wp2_with fail
    refine Free.wp_seq (I := fun w' => Below w.heap.size w w') (Gr := fun w1 w2 => Below w1.heap.size w1 w2) (by kernel_rfl) (by kernel_rfl) hIz.drew ?_
    refine Free.Seq.val ?_ (fun _ => Below.refl _ _) (fun a w1 hI hp => ?_) ?_
    rotate_left
    · have e0 := hp.slotV 0 (by kernel_rfl) rfl; simp at e0
      refine ⟨Free.want_none rfl, ?_⟩
      clear hp
      go_simp
      rfl
    refine Free.Seq.val ?_ (fun _ => Below.refl _ _) (fun a w1 hI hp => ?_) ?_
    rotate_left
    · have e61 := hp.backV 0 0 rfl rfl rfl rfl rfl
      refine ⟨Free.want_none rfl, ?_⟩
      clear hp
      go_simp
      rfl
    refine Free.Seq.val ?_ (fun _ => Below.refl _ _) (fun a w1 hI hp => ?_) ?_
    rotate_left
    · have e62 := hp.backV 1 0 rfl rfl rfl rfl rfl
      refine ⟨Free.want_none rfl, ?_⟩
      clear hp
      go_simp
      rfl
    refine Free.Seq.val ?_ (fun _ => Below.refl _ _) (fun a w1 hI hp => ?_) ?_
    rotate_left
    · have e63 := hp.backV 2 0 rfl rfl rfl rfl rfl
      have k2 := (hI.cell (p := ⟨g, 2, none⟩) glt).trans c2
      refine ⟨Free.want_none rfl, ?_⟩
      clear hp
      go_simp
      rfl
    refine Free.Seq.val ?_ (fun _ => Below.refl _ _) (fun a w1 hI hp => ?_) ?_
    rotate_left
    · have e64 := hp.backV 3 0 rfl rfl rfl rfl rfl
      refine ⟨Free.want_none rfl, ?_⟩
      clear hp
      go_simp
      rfl
    refine Free.Seq.val ?_ (fun _ => Below.refl _ _) (fun a w1 hI hp => ?_) ?_
    rotate_left
    · have e65 := hp.backV 4 0 rfl rfl rfl rfl rfl
      refine ⟨Free.want_none rfl, ?_⟩
      clear hp
      go_simp
      rfl
    refine Free.Seq.op (T := Fresh w 5 (.int .u8 0) (n + 1)) (fun v w1 w2 h hb => h.mono _ _ _ hb) (fun a w1 hI hp => ?_) ?_
    · have e66 := hp.backV 5 0 rfl rfl rfl rfl rfl
      have hmk : (Instr.makeSlice 28 (.int .i64 ((n : Int) + 1)) (.int .i64 ((n : Int) + 1))).run Try.prog w1 = .ok (.slice (some ⟨w1.heap.size, 0, none⟩) (n + 1) (n + 1)) (w1.alloc (.cells (madeCells #[.int .u8 0] (n + 1)) 5)) := by rw [show ((n : Int) + 1) = ((n + 1 : Nat) : Int) by omega]; exact run_make_row' 28 5 (.int .u8 0) 1 Try.underlying28 (by kernel_rfl) rfl .i64 .i64 (n + 1) (by omega) (by omega) w1
      refine ⟨Free.want_none rfl, (.slice (some ⟨w1.heap.size, 0, none⟩) (n + 1) (n + 1)), (w1.alloc (.cells (madeCells #[.int .u8 0] (n + 1)) 5)), ?_, Fresh.made _ _ _ hI.size, (Below.refl _ _).alloc (Nat.le_refl _) _, hI.alloc hI.size _⟩
      clear hp
      go_simp
    refine Free.Seq.val ?_ (fun _ => Below.refl _ _) (fun a w1 hI hp => ?_) ?_
    rotate_left
    · have e0 := hp.slotV 0 (by kernel_rfl) rfl; simp at e0
      refine ⟨Free.want_none rfl, ?_⟩
      clear hp
      go_simp
      rfl
    refine Free.Seq.val ?_ (fun _ => Below.refl _ _) (fun a w1 hI hp => ?_) ?_
    rotate_left
    · have e68 := hp.backV 7 0 rfl rfl rfl rfl rfl
      refine ⟨Free.want_none rfl, ?_⟩
      clear hp
      go_simp
      rfl
    refine Free.Seq.val ?_ (fun _ => Below.refl _ _) (fun a w1 hI hp => ?_) ?_
    rotate_left
    · have e69 := hp.backV 8 0 rfl rfl rfl rfl rfl
      refine ⟨Free.want_none rfl, ?_⟩
      clear hp
      go_simp
      rfl
    refine Free.Seq.val ?_ (fun _ => Below.refl _ _) (fun a w1 hI hp => ?_) ?_
    rotate_left
    · have e70 := hp.backV 9 0 rfl rfl rfl rfl rfl
      have k2 := (hI.cell (p := ⟨g, 2, none⟩) glt).trans c2
      refine ⟨Free.want_none rfl, ?_⟩
      clear hp
      go_simp
      rfl
    refine Free.Seq.val ?_ (fun _ => Below.refl _ _) (fun a w1 hI hp => ?_) ?_
    rotate_left
    · have e71 := hp.backV 10 0 rfl rfl rfl rfl rfl
      refine ⟨Free.want_none rfl, ?_⟩
      clear hp
      go_simp
      rfl
    refine Free.Seq.val ?_ (fun _ => Below.refl _ _) (fun a w1 hI hp => ?_) ?_
    rotate_left
    · have e72 := hp.backV 11 0 rfl rfl rfl rfl rfl
      refine ⟨Free.want_none rfl, ?_⟩
      clear hp
      go_simp
      rfl
    refine Free.Seq.op (T := Fresh w 3 (.int .i64 0) (n + 1)) (fun v w1 w2 h hb => h.mono _ _ _ hb) (fun a w1 hI hp => ?_) ?_
    · have e73 := hp.backV 12 0 rfl rfl rfl rfl rfl
      have hmk : (Instr.makeSlice 29 (.int .i64 ((n : Int) + 1)) (.int .i64 ((n : Int) + 1))).run Try.prog w1 = .ok (.slice (some ⟨w1.heap.size, 0, none⟩) (n + 1) (n + 1)) (w1.alloc (.cells (madeCells #[.int .i64 0] (n + 1)) 3)) := by rw [show ((n : Int) + 1) = ((n + 1 : Nat) : Int) by omega]; exact run_make_row' 29 3 (.int .i64 0) 8 Try.underlying29 (by kernel_rfl) rfl .i64 .i64 (n + 1) (by omega) (by omega) w1
      refine ⟨Free.want_none rfl, (.slice (some ⟨w1.heap.size, 0, none⟩) (n + 1) (n + 1)), (w1.alloc (.cells (madeCells #[.int .i64 0] (n + 1)) 3)), ?_, Fresh.made _ _ _ hI.size, (Below.refl _ _).alloc (Nat.le_refl _) _, hI.alloc hI.size _⟩
      clear hp
      go_simp
    refine Free.Seq.op (T := Fresh w 5 (.int .u8 0) (n + 1)) (fun v w1 w2 h hb => h.mono _ _ _ hb) (fun a w1 hI hp => ?_) ?_
    · have hx := hp.back 6 7 rfl rfl rfl rfl rfl
      refine ⟨Free.want_none rfl, _, _, ?_, hx, Below.refl _ _, hI⟩
      clear hp
      go_simp
    refine Free.Seq.op (T := Fresh w 3 (.int .i64 0) (n + 1)) (fun v w1 w2 h hb => h.mono _ _ _ hb) (fun a w1 hI hp => ?_) ?_
    · have hx := hp.back 13 1 rfl rfl rfl rfl rfl
      refine ⟨Free.want_none rfl, _, _, ?_, hx, Below.refl _ _, hI⟩
      clear hp
      go_simp
    refine Free.Seq.done (by simp) (fun wz hIz => ?_)
    simp only [List.reverse_cons, List.reverse_nil, List.nil_append, List.cons_append, Free.All, Free.eqF, forall_eq]
    rintro x1 - x2 - vP ⟨gP, rfl, hgP, hP⟩ vD ⟨gD, rfl, hgD, hD⟩
    simp only [Free.putL, Act.put, List.setIfInBounds_toArray, List.set_cons_zero, List.set_cons_succ]
    have hne : gP ≠ gD := ty_ne hP hD (by decide)
    have hgPlt : gP < wz.heap.size := (Array.getElem?_eq_some_iff.1 hP).1
    have hgDlt : gD < wz.heap.size := (Array.getElem?_eq_some_iff.1 hD).1
    have HPz := Lib.hid (HP.out.below hIz)
    have HB0 := Lib.hid hIz
    have HP0 := Lib.hid hP
    have HD0 := Lib.hid hD
    have c2z := (HL.out.below hIz).c2
    clear hIz hP hD c2 c3 c0 c1 c2y
    go_wp2_with ((with_reducible show wpList _ _ _ (⟨some 82, _, _, _, _, _⟩ :: _) _ _); refine wpList_copyr rfl (.tmp 75) (.tmp 81) 28 rfl 5 Try.underlying28 (by kernel_rfl) rfl rfl gP 0 (List.replicate (n + 1) (.int .u8 0)) HP0.out ((bs p).take k) (HPz.out.take1 (by omega)) (fun v hv => bs_one p v (List.mem_of_mem_take hv)) (by omega) (fun _ => rfl) (by simp; omega) ?_; intro w1 HP1 HG1)
    have HB1 := Lib.hid (HB0.out.grown HG1.out (Below.size HB0.out) (by intro i hi; injection hi with hi; omega))
    have c2a := (HL.out.below HB1.out).c2
    have HPa := Lib.hid ((HP.out.below HB1.out).drop1 (k := k) (by omega))
    clear c2z
    go_still_tail 10, (by kernel_rfl)
    change wpList _ _ _ _ _ w1.drew
    refine wpList_copyr rfl (.tmp 86) (.tmp 92) 28 rfl 5 Try.underlying28 (by kernel_rfl) rfl rfl gP (k + 1) (splice (List.replicate (n + 1) (.int .u8 0)) 0 ((bs p).take k)) HP1.out ((bs p).drop k) (HPa.out.stays (.drew w1)) (fun v hv => bs_one p v (List.mem_of_mem_drop hv)) (by omega) (fun h0 => by first | omega | rw [if_neg (by omega)]) (by rw [length_splice _ _ _ (by simp [bs_len]; omega)]; simp; omega) ?_
    intro w2 HP2 HG2
    generalize (if n = k then some (⟨gP, 0, none⟩ : Addr) else some ⟨gP, k + 1, none⟩) = z1
    generalize (if cP = k then AP else Option.map (fun x => x.add k) AP) = z2
    have HB2 := Lib.hid (HB1.out.drew.grown HG2.out (Below.size HB1.out.drew) (by intro i hi; injection hi with hi; omega))
    have HD2 := Lib.hid ((HG2.out.block gD (by rw [heap_drew]; exact Nat.lt_of_lt_of_le hgDlt HG1.out.size) (by simpa using Ne.symm hne)).trans ((congrArg (·[gD]?) (heap_drew w1)).trans ((HG1.out.block gD hgDlt (by simpa using Ne.symm hne)).trans HD0.out)))
    have c3a := (HL.out.below HB2.out).c3
    have HDa := Lib.hid (HD.out.below HB2.out)
    clear c2a
    go_wp2_with ((with_reducible show wpList _ _ _ (⟨some 101, _, _, _, _, _⟩ :: _) _ _); refine wpList_copyr rfl (.tmp 94) (.tmp 100) 29 rfl 3 Try.underlying29 (by kernel_rfl) rfl rfl gD 0 (List.replicate (n + 1) (.int .i64 0)) HD2.out ((is due).take k) (HDa.out.take1 (by omega)) (fun v hv => is_one due v (List.mem_of_mem_take hv)) (by omega) (fun _ => rfl) (by simp; omega) ?_; intro w3 HD3 HG3)
    have HB3 := Lib.hid (HB2.out.grown HG3.out (Below.size HB2.out) (by intro i hi; injection hi with hi; omega))
    have HP3 := Lib.hid ((HG3.out.block gP (Nat.lt_of_lt_of_le hgPlt (Nat.le_trans HG1.out.size (by have := HG2.out.size; rwa [heap_drew] at this))) (by simpa using hne)).trans HP2.out)
    have c3b := (HL.out.below HB3.out).c3
    have HDb := Lib.hid ((HD.out.below HB3.out).drop1 (k := k) (by omega))
    clear c3a
    go_still_tail 10, (by kernel_rfl)
    change wpList _ _ _ _ _ w3.drew
    refine wpList_copyr rfl (.tmp 105) (.tmp 111) 29 rfl 3 Try.underlying29 (by kernel_rfl) rfl rfl gD (k + 1) (splice (List.replicate (n + 1) (.int .i64 0)) 0 ((is due).take k)) HD3.out ((is due).drop k) (by have := HDb.out.stays (.drew w3); simpa [add_none] using this) (fun v hv => is_one due v (List.mem_of_mem_drop hv)) (by omega) (fun h0 => by first | omega | rw [if_neg (by omega)]) (by rw [length_splice _ _ _ (by simp [is_len]; omega)]; simp; omega) ?_
    intro w4 HD4 HG4
    generalize (if n = k then some (⟨gD, 0, none⟩ : Addr) else some ⟨gD, k + 1, none⟩) = z3
    generalize (if cD = k then some (⟨gd, off, none⟩ : Addr) else some ⟨gd, off + k, none⟩) = z4
    have HB4 := Lib.hid (HB3.out.drew.grown HG4.out (Below.size HB3.out.drew) (by intro i hi; injection hi with hi; omega))
    have HP4 := Lib.hid ((HG4.out.block gP (by rw [heap_drew]; exact (Array.getElem?_eq_some_iff.1 HP3.out).1) (by simpa using hne)).trans ((congrArg (·[gP]?) (heap_drew w3)).trans HP3.out))
    have HL4 := Lib.hid (HL.out.below HB4.out)
    have hpl := Lib.hid HL.out.plen
    have hdl := Lib.hid HL.out.dlen
    obtain ⟨SP, hSP⟩ : ∃ SP, SP = splice (splice (List.replicate (n + 1) (Value.int .u8 0)) 0 ((bs p).take k)) (k + 1) ((bs p).drop k) := ⟨_, rfl⟩
    obtain ⟨SD, hSD⟩ : ∃ SD, SD = splice (splice (List.replicate (n + 1) (Value.int .i64 0)) 0 ((is due).take k)) (k + 1) ((is due).drop k) := ⟨_, rfl⟩
    have hSPl : SP.length = n + 1 := by
      have := hpl.out
      rw [hSP, length_splice _ _ _ (by rw [length_splice _ _ _ (by simp [bs_len]; omega)]; simp [bs_len]; omega), length_splice _ _ _ (by simp [bs_len]; omega)]
      simp
    have hSDl : SD.length = n + 1 := by
      have := hdl.out
      rw [hSD, length_splice _ _ _ (by rw [length_splice _ _ _ (by simp [is_len]; omega)]; simp [is_len]; omega), length_splice _ _ _ (by simp [is_len]; omega)]
      simp
    have e1 := splice_gap (List.replicate (n + 1) (Value.int .u8 0)) ((bs p).take k) ((bs p).drop k) (bv b) k (by have := hpl.out; simp [bs_len]; omega) (by have := hpl.out; simp [bs_len]; omega)
    have e2 := splice_gap (List.replicate (n + 1) (Value.int .i64 0)) ((is due).take k) ((is due).drop k) (.int .i64 (x)) k (by have := hdl.out; simp [is_len]; omega) (by have := hdl.out; simp [is_len]; omega)
    have hP4 := HP4.out
    have hD4 := HD4.out
    rw [← hSP] at hP4 e1
    rw [← hSD] at hD4 e2
    clear HP4 HD4 hSP hSD
    have HP4 := Lib.hid hP4
    have HD4 := Lib.hid hD4
    have E1 := Lib.hid e1
    have E2 := Lib.hid e2
    have c2e := HL4.out.c2
    have c3e := HL4.out.c3
    have f2 := HL4.out.fr 2
    have f3 := HL4.out.fr 3
    have cPk : w4.cell? ⟨gP, k, none⟩ = some (SP[k]'(by omega)) := by rw [cell_of_cells hP4]; simp
    have cDk : w4.cell? ⟨gD, k, none⟩ = some (SD[k]'(by omega)) := by rw [cell_of_cells hD4]; simp
    generalize SP[k]'(by omega) = yP at cPk
    generalize SD[k]'(by omega) = yD at cDk
    have fP : w4.frozen? ⟨gP, k, none⟩ = false := frozen_of_row w4 gP k _ _ hP4
    have fD : w4.frozen? ⟨gD, k, none⟩ = false := frozen_of_row w4 gD k _ _ hD4
    have hgg : gP ≠ g := by omega
    have hgg' : gD ≠ g := by omega
    have hkn : k < n + 1 := by omega
    clear hP4 hD4 c3b e1 e2 hSPl hSDl
    go_wp2
    go_ret
    have HB5 := (HB4.out.setCell (p := ⟨gP, k, none⟩) hgP (bv b)).setCell (p := ⟨gD, k, none⟩) hgD (.int .i64 (x))
    have hPf : ((w4.setCell ⟨gP, k, none⟩ (bv b)).setCell ⟨gD, k, none⟩ (.int .i64 (x))).heap[gP]? = some (.cells (bs (p.take k ++ b :: p.drop k)).toArray 5 (0, 0)) := by
      rw [heap_setCell_other _ _ _ _ (by exact hne), heap_setCell_same w4 gP k _ _ _ HP4.out, List.setIfInBounds_toArray, E1.out]
      simp [bs, List.map_take, List.map_drop]
    have hDf : ((w4.setCell ⟨gP, k, none⟩ (bv b)).setCell ⟨gD, k, none⟩ (.int .i64 (x))).heap[gD]? = some (.cells (is (due.take k ++ (x) :: due.drop k)).toArray 3 (0, 0)) := by
      rw [heap_setCell_same _ gD k _ _ _ ((heap_setCell_other _ _ _ _ (by exact Ne.symm hne)).trans HD4.out), List.setIfInBounds_toArray, E2.out]
      simp [is, List.map_take, List.map_drop]
    have hpl' := hpl.out
    have hdl' := hdl.out
    refine ⟨_, _, rfl, (HL.out.below HB5).set23 (Sl.of_heap hPf (Nat.le_trans hB hgP) (by simp [bs_len]; omega) (by unfold maxLen; omega)) (Sl.of_heap hDf (Nat.le_trans hB hgD) (by simp [is_len]; omega) (by unfold maxLen; omega)), ((Kept.all (S := fun i => i = g) HB5).setCell (p := ⟨g, 2, none⟩) (.inl rfl) _).setCell (p := ⟨g, 3, none⟩) (.inl rfl) _, ?_, ?_⟩
    · intro i hi
      simp [Value.ownBlock] at hi
      exact .inr (by omega)
    · intro i hi
      simp [Value.ownBlock] at hi
      exact .inr (by omega)


end Go.Proofs.Ytgiboekjjnmnnaa
