/-
  AN ID's TEXT: the walks.
-/
import Derived.Test.YtmdjjlgaflpcfaaDoorMsgText
import Derived.Test.YtmdjjlgaflpcfaaDoorMsgAwake
import Derived.Test.YtmdjjlgaflpcfaaDoorShelf13
import Derived.Lib.AppendIntMem
namespace Go.Proofs.YtmdjjlgaflpcfaaDoor
open Go.RowKit Mg

theorem tabIs_below {P : Program} {w w' : World} {name : String} {k : IntKind} {zs : List Int} (h : Lib.TabIs P w name k zs) (hb : Below w.heap.size w w') : Lib.TabIs P w' name k zs := by
  unfold Lib.TabIs World.var? at *
  cases hg : P.globalNamed name with
  | none => rw [hg] at h; cases h
  | some g =>
    rw [hg] at h
    simp only [Option.bind_some] at h ⊢
    cases ho : w.heap[g]? with
    | none => rw [ho] at h; cases h
    | some o => rw [hb.block g (Array.getElem?_eq_some_iff.1 ho).1, ho, ← h, ho]
/-- what the library's tables and errors are -/
structure Door (w : World) : Prop where
  tab : Lib.TabIs Tryd.prog w "internal/strconv.uint64pow10" .u64 Lib.pow10Tab
theorem Door.below {w w' : World} (h : Door w) (hb : Below w.heap.size w w') : Door w' := ⟨tabIs_below h.tab hb⟩

theorem itoa_nat (n : Nat) (hn : n ≤ 65535) (w : World) (hd : Door w) : Calls Tryd.prog 36 #[.int .i64 (n : Int)] w fun e w' => e = .returned (.string ⟨(Lib.decDigits n).toArray⟩) ∧ Below w.heap.size w w' := by
  refine (Tryd.strconv_Itoa (n : Int) (by omega) (by omega) w hd.tab).mono ?_
  rintro e w' ⟨rfl, k, os, rfl⟩
  rw [Lib.itoa_nonneg]
  exact ⟨rfl, Lib.below_grow _ _ (Nat.le_refl _) _ _⟩

theorem add_texts {P : Program} (w : World) (a b : List UInt8) (h : a.length + b.length ≤ 9223372036854775807) : (Op.stringOp .add ⟨a.toArray⟩ ⟨b.toArray⟩).run P w = .ok (.string ⟨(a ++ b).toArray⟩) w := by
  have e : ((⟨a.toArray⟩ : ByteArray) ++ (⟨b.toArray⟩ : ByteArray)) = (⟨(a ++ b).toArray⟩ : ByteArray) := by
    apply ByteArray.ext
    simp [ByteArray.data_append]
  have hs : ¬ ((((⟨a.toArray⟩ : ByteArray).size + (⟨b.toArray⟩ : ByteArray).size : Nat) : Int) > IntKind.i64.max) := by
    simp [ByteArray.size, IntKind.max, IntKind.signed, IntKind.bits]
    omega
  unfold Op.stringOp
  simp only [hs, if_false, e]
  rfl

set_option maxHeartbeats 2000000 in
theorem text_bad (i : Mid) (w : World) (h : chk i ≠ 0) : Calls Tryd.prog 27 #[idv i] w fun e w' => e = .returned (.tuple #[.string ⟨#[]⟩, .int .i64 (chk i)]) ∧ Below w.heap.size w w' := by
  have HC := Lib.hid (fun W => check_any i W)
  obtain ⟨z, hz⟩ : ∃ z, z = chk i := ⟨_, rfl⟩
  rw [← hz] at HC h ⊢
  have t0 : (z != 0) = true := by simpa using h
  clear hz h
  obtain ⟨io, id, ie, ic⟩ := i
  unfold idv at HC ⊢
  go_enter Tryd.func27, Tryd.ntmps27
  go_wp2_with fail
  refine (HC.out _).mono ?_
  rintro e w1 ⟨rfl, hb⟩
  go_wp2
  go_ret2
  exact ⟨rfl, ((Below.refl _ _).alloc (Nat.le_refl _) _).trans (hb.mono (by simp))⟩

set_option maxRecDepth 100000 in
set_option maxHeartbeats 4000000 in
theorem text_ok (o d e c : Nat) (w : World) (ho : o ≤ 65535) (hd : d ≤ 65535) (he : e ≤ 65535) (hc : c ≤ 65535) (h : chk ⟨o, d, e, c⟩ = 0) (hdoor : Door w) :
    Calls Tryd.prog 27 #[idv ⟨o, d, e, c⟩] w fun en w' => en = .returned (.tuple #[.string ⟨(textB ⟨o, d, e, c⟩).toArray⟩, .int .i64 0]) ∧ Below w.heap.size w w' := by
  have hck := fun W => check_any ⟨o, d, e, c⟩ W
  rw [h] at hck
  unfold idv at hck ⊢
  simp only at hck ⊢
  have HC := Lib.hid hck
  have H0 := Lib.hid (fun W k => itoa_nat o ho W k)
  have H1 := Lib.hid (fun W k => itoa_nat d hd W k)
  have H2 := Lib.hid (fun W k => itoa_nat e he W k)
  have H3 := Lib.hid (fun W k => itoa_nat c hc W k)
  have ht : textB ⟨o, d, e, c⟩ = ((((((Lib.decDigits o ++ [62]) ++ Lib.decDigits d) ++ [58]) ++ Lib.decDigits e) ++ [46]) ++ Lib.decDigits c) := by
    simp [textB]
  have l0 := digits_len o ho
  have l1 := digits_len d hd
  have l2 := digits_len e he
  have l3 := digits_len c hc
  rw [ht]
  obtain ⟨p0, hp0⟩ : ∃ p, p = Lib.decDigits o := ⟨_, rfl⟩
  obtain ⟨p1, hp1⟩ : ∃ p, p = Lib.decDigits d := ⟨_, rfl⟩
  obtain ⟨p2, hp2⟩ : ∃ p, p = Lib.decDigits e := ⟨_, rfl⟩
  obtain ⟨p3, hp3⟩ : ∃ p, p = Lib.decDigits c := ⟨_, rfl⟩
  rw [← hp0] at H0 l0 ⊢
  rw [← hp1] at H1 l1 ⊢
  rw [← hp2] at H2 l2 ⊢
  rw [← hp3] at H3 l3 ⊢
  obtain ⟨q1, hq1⟩ : ∃ q, q = p0 ++ [62] := ⟨_, rfl⟩
  have n1 : q1.length ≤ 11 := by rw [hq1]; simp; omega
  have HA1 : Hid (∀ W, (Op.stringOp .add ⟨p0.toArray⟩ ⟨#[62]⟩).run Tryd.prog W = .ok (.string ⟨q1.toArray⟩) W) := fun W => by rw [hq1]; exact add_texts W p0 [62] (by first | omega | (simp; omega))
  rw [← hq1]
  obtain ⟨q2, hq2⟩ : ∃ q, q = q1 ++ p1 := ⟨_, rfl⟩
  have n2 : q2.length ≤ 17 := by rw [hq2]; simp; omega
  have HA2 : Hid (∀ W, (Op.stringOp .add ⟨q1.toArray⟩ ⟨p1.toArray⟩).run Tryd.prog W = .ok (.string ⟨q2.toArray⟩) W) := fun W => by rw [hq2]; exact add_texts W q1 p1 (by first | omega | (simp; omega))
  rw [← hq2]
  obtain ⟨q3, hq3⟩ : ∃ q, q = q2 ++ [58] := ⟨_, rfl⟩
  have n3 : q3.length ≤ 23 := by rw [hq3]; simp; omega
  have HA3 : Hid (∀ W, (Op.stringOp .add ⟨q2.toArray⟩ ⟨#[58]⟩).run Tryd.prog W = .ok (.string ⟨q3.toArray⟩) W) := fun W => by rw [hq3]; exact add_texts W q2 [58] (by first | omega | (simp; omega))
  rw [← hq3]
  obtain ⟨q4, hq4⟩ : ∃ q, q = q3 ++ p2 := ⟨_, rfl⟩
  have n4 : q4.length ≤ 29 := by rw [hq4]; simp; omega
  have HA4 : Hid (∀ W, (Op.stringOp .add ⟨q3.toArray⟩ ⟨p2.toArray⟩).run Tryd.prog W = .ok (.string ⟨q4.toArray⟩) W) := fun W => by rw [hq4]; exact add_texts W q3 p2 (by first | omega | (simp; omega))
  rw [← hq4]
  obtain ⟨q5, hq5⟩ : ∃ q, q = q4 ++ [46] := ⟨_, rfl⟩
  have n5 : q5.length ≤ 35 := by rw [hq5]; simp; omega
  have HA5 : Hid (∀ W, (Op.stringOp .add ⟨q4.toArray⟩ ⟨#[46]⟩).run Tryd.prog W = .ok (.string ⟨q5.toArray⟩) W) := fun W => by rw [hq5]; exact add_texts W q4 [46] (by first | omega | (simp; omega))
  rw [← hq5]
  obtain ⟨q6, hq6⟩ : ∃ q, q = q5 ++ p3 := ⟨_, rfl⟩
  have n6 : q6.length ≤ 41 := by rw [hq6]; simp; omega
  have HA6 : Hid (∀ W, (Op.stringOp .add ⟨q5.toArray⟩ ⟨p3.toArray⟩).run Tryd.prog W = .ok (.string ⟨q6.toArray⟩) W) := fun W => by rw [hq6]; exact add_texts W q5 p3 (by first | omega | (simp; omega))
  rw [← hq6]
  clear hq1 hq2 hq3 hq4 hq5 hq6 n1 n2 n3 n4 n5 n6 l0 l1 l2 l3
  have HD := Lib.hid hdoor
  clear hck h ht hp0 hp1 hp2 hp3 hdoor
  go_enter Tryd.func27, Tryd.ntmps27
  go_wp2_with fail
  refine (HC.out _).mono ?_
  rintro en w1 ⟨rfl, hb⟩
  have h0 := (hb.block w.heap.size (by simp)).trans (heap_alloc_new w (.cells #[.int .i64 o, .int .i64 d, .int .i64 e, .int .i64 c] 23))
  have HB := Lib.hid (((Below.refl w.heap.size w).alloc (Nat.le_refl _) (.cells #[.int .i64 o, .int .i64 d, .int .i64 e, .int .i64 c] 23)).trans (hb.mono (by simp)))
  have HH := Lib.hid h0
  have hlt : w.heap.size < w1.heap.size := (Array.getElem?_eq_some_iff.1 h0).1
  have HD1 := Lib.hid (HD.out.below HB.out)
  clear hb h0
  go_wp2_with fail
  refine Free.wp_seq (I := fun w' => Below w1.heap.size w1 w') (Gr := fun w1 w2 => Below w1.heap.size w1 w2) (by kernel_rfl) (by kernel_rfl) (Below.refl _ _).drew ?_
  refine Free.Seq.val ?_ (fun _ => Below.refl _ _) (fun a w1 hI hp => ?_) ?_
  rotate_left
  · have e5 := hp.slotV 5 (by kernel_rfl) rfl; simp at e5
    refine ⟨Free.want_none rfl, ?_⟩
    clear hp
    go_simp
    rfl
  refine Free.Seq.val ?_ (fun _ => Below.refl _ _) (fun a w1 hI hp => ?_) ?_
  rotate_left
  · have e1 := hp.slotV 1 (by kernel_rfl) rfl; simp at e1
    refine ⟨Free.want_none rfl, ?_⟩
    clear hp
    go_simp
    rfl
  refine Free.Seq.val ?_ (fun _ => Below.refl _ _) (fun a w1 hI hp => ?_) ?_
  rotate_left
  · have e12 := hp.backV 1 0 rfl rfl rfl rfl rfl
    have k0 := (hI.cell (p := ⟨w.heap.size, 0, none⟩) hlt).trans (cell_of_cells HH.out 0)
    refine ⟨Free.want_none rfl, ?_⟩
    clear hp
    go_simp
    rfl
  refine Free.Seq.call (T := Free.eqF (.string ⟨p0.toArray⟩)) (fun _ _ _ h _ => h) (fun a w1 hI hp => ?_) ?_
  · have e11 := hp.backV 0 2 rfl rfl rfl rfl rfl; have e13 := hp.backV 2 0 rfl rfl rfl rfl rfl
    refine ⟨Free.want_none rfl, 36, #[.int .i64 (o : Int)], ?_, ?_⟩
    · clear hp
      go_simp
    · refine (H0.out _ (HD1.out.below hI)).mono ?_
      rintro e w' ⟨rfl, hb⟩
      exact ⟨_, rfl, rfl, hb, hI.trans (hb.mono hI.size)⟩
  refine Free.Seq.val ?_ (fun _ => Below.refl _ _) (fun a w1 hI hp => ?_) ?_
  rotate_left
  · have e14 := hp.backV 3 0 rfl rfl rfl rfl rfl
    have ha := HA1.out w1
    refine ⟨Free.want_none rfl, ?_⟩
    clear hp
    go_simp
    rfl
  refine Free.Seq.val ?_ (fun _ => Below.refl _ _) (fun a w1 hI hp => ?_) ?_
  rotate_left
  · have e5 := hp.slotV 5 (by kernel_rfl) rfl; simp at e5
    refine ⟨Free.want_none rfl, ?_⟩
    clear hp
    go_simp
    rfl
  refine Free.Seq.val ?_ (fun _ => Below.refl _ _) (fun a w1 hI hp => ?_) ?_
  rotate_left
  · have e1 := hp.slotV 1 (by kernel_rfl) rfl; simp at e1
    refine ⟨Free.want_none rfl, ?_⟩
    clear hp
    go_simp
    rfl
  refine Free.Seq.val ?_ (fun _ => Below.refl _ _) (fun a w1 hI hp => ?_) ?_
  rotate_left
  · have e17 := hp.backV 6 0 rfl rfl rfl rfl rfl
    have k1 := (hI.cell (p := ⟨w.heap.size, 1, none⟩) hlt).trans (cell_of_cells HH.out 1)
    refine ⟨Free.want_none rfl, ?_⟩
    clear hp
    go_simp
    rfl
  refine Free.Seq.call (T := Free.eqF (.string ⟨p1.toArray⟩)) (fun _ _ _ h _ => h) (fun a w1 hI hp => ?_) ?_
  · have e16 := hp.backV 5 2 rfl rfl rfl rfl rfl; have e18 := hp.backV 7 0 rfl rfl rfl rfl rfl
    refine ⟨Free.want_none rfl, 36, #[.int .i64 (d : Int)], ?_, ?_⟩
    · clear hp
      go_simp
    · refine (H1.out _ (HD1.out.below hI)).mono ?_
      rintro e w' ⟨rfl, hb⟩
      exact ⟨_, rfl, rfl, hb, hI.trans (hb.mono hI.size)⟩
  refine Free.Seq.val ?_ (fun _ => Below.refl _ _) (fun a w1 hI hp => ?_) ?_
  rotate_left
  · have e15 := hp.backV 4 4 rfl rfl rfl rfl rfl; have e19 := hp.backV 8 0 rfl rfl rfl rfl rfl
    have ha := HA2.out w1
    refine ⟨Free.want_none rfl, ?_⟩
    clear hp
    go_simp
    rfl
  refine Free.Seq.val ?_ (fun _ => Below.refl _ _) (fun a w1 hI hp => ?_) ?_
  rotate_left
  · have e20 := hp.backV 9 0 rfl rfl rfl rfl rfl
    have ha := HA3.out w1
    refine ⟨Free.want_none rfl, ?_⟩
    clear hp
    go_simp
    rfl
  refine Free.Seq.val ?_ (fun _ => Below.refl _ _) (fun a w1 hI hp => ?_) ?_
  rotate_left
  · have e5 := hp.slotV 5 (by kernel_rfl) rfl; simp at e5
    refine ⟨Free.want_none rfl, ?_⟩
    clear hp
    go_simp
    rfl
  refine Free.Seq.val ?_ (fun _ => Below.refl _ _) (fun a w1 hI hp => ?_) ?_
  rotate_left
  · have e1 := hp.slotV 1 (by kernel_rfl) rfl; simp at e1
    refine ⟨Free.want_none rfl, ?_⟩
    clear hp
    go_simp
    rfl
  refine Free.Seq.val ?_ (fun _ => Below.refl _ _) (fun a w1 hI hp => ?_) ?_
  rotate_left
  · have e23 := hp.backV 12 0 rfl rfl rfl rfl rfl
    have k2 := (hI.cell (p := ⟨w.heap.size, 2, none⟩) hlt).trans (cell_of_cells HH.out 2)
    refine ⟨Free.want_none rfl, ?_⟩
    clear hp
    go_simp
    rfl
  refine Free.Seq.call (T := Free.eqF (.string ⟨p2.toArray⟩)) (fun _ _ _ h _ => h) (fun a w1 hI hp => ?_) ?_
  · have e22 := hp.backV 11 2 rfl rfl rfl rfl rfl; have e24 := hp.backV 13 0 rfl rfl rfl rfl rfl
    refine ⟨Free.want_none rfl, 36, #[.int .i64 (e : Int)], ?_, ?_⟩
    · clear hp
      go_simp
    · refine (H2.out _ (HD1.out.below hI)).mono ?_
      rintro e w' ⟨rfl, hb⟩
      exact ⟨_, rfl, rfl, hb, hI.trans (hb.mono hI.size)⟩
  refine Free.Seq.val ?_ (fun _ => Below.refl _ _) (fun a w1 hI hp => ?_) ?_
  rotate_left
  · have e21 := hp.backV 10 4 rfl rfl rfl rfl rfl; have e25 := hp.backV 14 0 rfl rfl rfl rfl rfl
    have ha := HA4.out w1
    refine ⟨Free.want_none rfl, ?_⟩
    clear hp
    go_simp
    rfl
  refine Free.Seq.val ?_ (fun _ => Below.refl _ _) (fun a w1 hI hp => ?_) ?_
  rotate_left
  · have e26 := hp.backV 15 0 rfl rfl rfl rfl rfl
    have ha := HA5.out w1
    refine ⟨Free.want_none rfl, ?_⟩
    clear hp
    go_simp
    rfl
  refine Free.Seq.val ?_ (fun _ => Below.refl _ _) (fun a w1 hI hp => ?_) ?_
  rotate_left
  · have e5 := hp.slotV 5 (by kernel_rfl) rfl; simp at e5
    refine ⟨Free.want_none rfl, ?_⟩
    clear hp
    go_simp
    rfl
  refine Free.Seq.val ?_ (fun _ => Below.refl _ _) (fun a w1 hI hp => ?_) ?_
  rotate_left
  · have e1 := hp.slotV 1 (by kernel_rfl) rfl; simp at e1
    refine ⟨Free.want_none rfl, ?_⟩
    clear hp
    go_simp
    rfl
  refine Free.Seq.val ?_ (fun _ => Below.refl _ _) (fun a w1 hI hp => ?_) ?_
  rotate_left
  · have e29 := hp.backV 18 0 rfl rfl rfl rfl rfl
    have k3 := (hI.cell (p := ⟨w.heap.size, 3, none⟩) hlt).trans (cell_of_cells HH.out 3)
    refine ⟨Free.want_none rfl, ?_⟩
    clear hp
    go_simp
    rfl
  refine Free.Seq.call (T := Free.eqF (.string ⟨p3.toArray⟩)) (fun _ _ _ h _ => h) (fun a w1 hI hp => ?_) ?_
  · have e28 := hp.backV 17 2 rfl rfl rfl rfl rfl; have e30 := hp.backV 19 0 rfl rfl rfl rfl rfl
    refine ⟨Free.want_none rfl, 36, #[.int .i64 (c : Int)], ?_, ?_⟩
    · clear hp
      go_simp
    · refine (H3.out _ (HD1.out.below hI)).mono ?_
      rintro e w' ⟨rfl, hb⟩
      exact ⟨_, rfl, rfl, hb, hI.trans (hb.mono hI.size)⟩
  refine Free.Seq.val ?_ (fun _ => Below.refl _ _) (fun a w1 hI hp => ?_) ?_
  rotate_left
  · have e27 := hp.backV 16 4 rfl rfl rfl rfl rfl; have e31 := hp.backV 20 0 rfl rfl rfl rfl rfl
    have ha := HA6.out w1
    refine ⟨Free.want_none rfl, ?_⟩
    clear hp
    go_simp
    rfl
  refine Free.Seq.val ?_ (fun _ => Below.refl _ _) (fun a w1 hI hp => ?_) ?_
  rotate_left
  · have e32 := hp.backV 21 0 rfl rfl rfl rfl rfl
    refine ⟨Free.want_none rfl, ?_⟩
    clear hp
    go_simp
    rfl
  refine Free.Seq.val ?_ (fun _ => Below.refl _ _) (fun a w1 hI hp => ?_) ?_
  rotate_left
  · skip
    refine ⟨Free.want_none rfl, ?_⟩
    clear hp
    go_simp
    rfl
  refine Free.Seq.done (by simp) (fun wz hIz => ?_)
  simp only [List.reverse_cons, List.reverse_nil, List.nil_append, List.cons_append, Free.All, Free.eqF, forall_eq]
  skip
  simp only [Free.putL, Act.put, List.setIfInBounds_toArray, List.set_cons_zero, List.set_cons_succ]
  go_wp2
  go_ret2
  exact ⟨rfl, HB.out.trans (hIz.mono HB.out.size)⟩
end Go.Proofs.YtmdjjlgaflpcfaaDoor
