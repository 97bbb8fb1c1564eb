/-
  THE DOCUMENT's DIGITS AND TEXT.
-/
import Derived.Test.YtmdjjlgaflpcfaaDoorMsgTextW
namespace Go.Proofs.YtmdjjlgaflpcfaaDoor
open Go.RowKit Mg

/-- a string of one byte that a literal has laid -/
theorem conv_one (w : World) (x : UInt8) (z : Int) (hz : z = (x.toNat : Int)) : (convert 25 9 (.slice (some ⟨w.heap.size, 0, none⟩) 1 1)).run Tryd.prog (w.alloc (.cells #[.int .u8 z] 5)) = .ok (.string ⟨#[x]⟩) (w.alloc (.cells #[.int .u8 z] 5)) := by
  subst hz
  exact (rd_lit w [x] 1 rfl (by omega) 5 (0, 0)).string (P := Tryd.prog) 25 9 5 Tryd.underlying25 Tryd.underlying5 Tryd.underlying9
theorem digit_byte (k : Nat) (h : k < 10) : (48 : Int) + (k : Int) = ((UInt8.ofNat (48 + k)).toNat : Int) := by
  rw [UInt8.toNat_ofNat', Nat.mod_eq_of_lt (by omega)]
  omega
set_option maxRecDepth 100000 in
set_option maxHeartbeats 2000000 in
theorem digits_any (n : Nat) (hn : n ≤ 65535) (w : World) : Calls Tryd.prog 37 #[.int .i64 (n : Int)] w fun e w' => e = .returned (.string ⟨(Lib.decDigits n).toArray⟩) ∧ Below w.heap.size w w' := by
  have HL := Lib.hid (digits_len n hn)
  obtain ⟨D, hD⟩ : ∃ D, D = Lib.decDigits n := ⟨_, rfl⟩
  rw [← hD] at HL ⊢
  have HD := Lib.hid hD
  clear hD
  go_enter Tryd.func37, Tryd.ntmps37
  go_wp2_with fail
  go_loopw [0, 3] (fun i s wr => ∃ (m : Nat) (t : List UInt8), i = .int .i64 m ∧ s = .string ⟨t.toArray⟩ ∧ m ≤ 65535 ∧ Hid (D = Lib.decDigits m ++ t) ∧ Hid (Below w.heap.size w wr)) (fun i _ _ => (intOf i).toNat)
  case atStart => exact ⟨n, [], rfl, rfl, hn, by rw [List.append_nil]; exact HD.out, Below.refl _ _⟩
  case round =>
    obtain ⟨m, t, rfl, rfl, hm, ht, hb⟩ := hrel
    have htl : t.length ≤ 5 := by have := HL.out; rw [ht.out, List.length_append] at this; omega
    by_cases h9 : 9 < m
    · have hx : Lib.decDigits m = Lib.decDigits (m / 10) ++ [UInt8.ofNat (48 + m % 10)] := by rw [Lib.decDigits, dif_neg (by omega)]
      have hc := conv_one wr (UInt8.ofNat (48 + m % 10)) (48 + (m : Int) % 10) (digit_byte (m % 10) (by omega))
      obtain ⟨x, hxx⟩ : ∃ x, x = UInt8.ofNat (48 + m % 10) := ⟨_, rfl⟩
      rw [← hxx] at hx hc
      have ha : ∀ W, (Op.stringOp .add ⟨#[x]⟩ ⟨t.toArray⟩).run Tryd.prog W = .ok (.string ⟨(x :: t).toArray⟩) W := fun W => add_texts W [x] t (by simp; omega)
      have HX := Lib.hid hx
      have b9 : (9 : Int) < (m : Int) := by omega
      have b65 : (m : Int) ≤ 65535 := by omega
      clear hx hxx
      go_wp2_with fail
      go_roundw
      case rel => exact ⟨m / 10, x :: t, by go_num, rfl, by omega, by rw [ht.out, HX.out, List.append_assoc]; rfl, hb.out.alloc hb.out.size _⟩
      case measure => simp [intOf]; omega
    · have hx : Lib.decDigits m = [UInt8.ofNat (48 + m)] := by rw [Lib.decDigits, dif_pos (by omega)]
      have hc := conv_one wr (UInt8.ofNat (48 + m)) (48 + (m : Int)) (digit_byte m (by omega))
      obtain ⟨x, hxx⟩ : ∃ x, x = UInt8.ofNat (48 + m) := ⟨_, rfl⟩
      rw [← hxx] at hx hc
      have ha : ∀ W, (Op.stringOp .add ⟨#[x]⟩ ⟨t.toArray⟩).run Tryd.prog W = .ok (.string ⟨(x :: t).toArray⟩) W := fun W => add_texts W [x] t (by simp; omega)
      have HX := Lib.hid hx
      have b9 : (m : Int) ≤ 9 := by omega
      have b0 : (0 : Int) ≤ (m : Int) := by omega
      clear hx hxx
      go_wp2
      go_ret
      have e9 : D = x :: t := by rw [ht.out, HX.out]; rfl
      rw [e9]
      exact ⟨rfl, hb.out.alloc hb.out.size _⟩
set_option maxHeartbeats 2000000 in
theorem rtext_bad (i : Mid) (w : World) (h : chk i ≠ 0) : Calls Tryd.prog 28 #[idv i] w fun e w' => e = .returned (.tuple #[.string ⟨#[]⟩, .int .i64 (chk i)]) ∧ Below w.heap.size w w' := by
  have HC := Lib.hid (fun W => rcheck_any i W)
  obtain ⟨z, hz⟩ : ∃ z, z = chk i := ⟨_, rfl⟩
  rw [← hz] at HC h ⊢
  have t0 : (z != 0) = true := by simpa using h
  clear hz h
  obtain ⟨io, id, ie, ic⟩ := i
  unfold idv at HC ⊢
  go_enter Tryd.func28, Tryd.ntmps28
  go_wp2_with fail
  refine (HC.out _).mono ?_
  rintro e w1 ⟨rfl, hb⟩
  have k0 : w1.cell? ⟨w.heap.size, 0, none⟩ = some (.int .i64 io) := (hb.cell (p := ⟨w.heap.size, 0, none⟩) (by simp)).trans (World.cell?_alloc_mark w _ _ _ 0)
  have k1 : w1.cell? ⟨w.heap.size, 1, none⟩ = some (.int .i64 id) := (hb.cell (p := ⟨w.heap.size, 1, none⟩) (by simp)).trans (World.cell?_alloc_mark w _ _ _ 1)
  have k2 : w1.cell? ⟨w.heap.size, 2, none⟩ = some (.int .i64 ie) := (hb.cell (p := ⟨w.heap.size, 2, none⟩) (by simp)).trans (World.cell?_alloc_mark w _ _ _ 2)
  have k3 : w1.cell? ⟨w.heap.size, 3, none⟩ = some (.int .i64 ic) := (hb.cell (p := ⟨w.heap.size, 3, none⟩) (by simp)).trans (World.cell?_alloc_mark w _ _ _ 3)
  have HB := Lib.hid (((Below.refl w.heap.size w).alloc (Nat.le_refl _) _).trans (hb.mono (by simp)))
  clear hb
  go_wp2_with fail
  refine (HC.out _).mono ?_
  rintro e w2 ⟨rfl, hb2⟩
  go_wp2
  go_ret2
  exact ⟨rfl, HB.out.trans (hb2.mono HB.out.size)⟩

set_option maxRecDepth 100000 in
set_option maxHeartbeats 4000000 in
theorem rtext_ok (o d e c : Nat) (w : World) (ho : o ≤ 65535) (hd : d ≤ 65535) (he : e ≤ 65535) (hc : c ≤ 65535) (h : chk ⟨o, d, e, c⟩ = 0) :
    Calls Tryd.prog 28 #[idv ⟨o, d, e, c⟩] w fun en w' => en = .returned (.tuple #[.string ⟨(textB ⟨o, d, e, c⟩).toArray⟩, .int .i64 0]) ∧ Below w.heap.size w w' := by
  have hck := fun W => rcheck_any ⟨o, d, e, c⟩ W
  rw [h] at hck
  unfold idv at hck ⊢
  simp only at hck ⊢
  have HC := Lib.hid hck
  have H0 := Lib.hid (fun W => digits_any o ho W)
  have H1 := Lib.hid (fun W => digits_any d hd W)
  have H2 := Lib.hid (fun W => digits_any e he W)
  have H3 := Lib.hid (fun W => digits_any c hc W)
  have ht : textB ⟨o, d, e, c⟩ = ((((((Lib.decDigits o ++ [62]) ++ Lib.decDigits d) ++ [58]) ++ Lib.decDigits e) ++ [46]) ++ Lib.decDigits c) := by
    simp [textB]
  have l0 := digits_len o ho
  have l1 := digits_len d hd
  have l2 := digits_len e he
  have l3 := digits_len c hc
  rw [ht]
  obtain ⟨p0, hp0⟩ : ∃ p, p = Lib.decDigits o := ⟨_, rfl⟩
  obtain ⟨p1, hp1⟩ : ∃ p, p = Lib.decDigits d := ⟨_, rfl⟩
  obtain ⟨p2, hp2⟩ : ∃ p, p = Lib.decDigits e := ⟨_, rfl⟩
  obtain ⟨p3, hp3⟩ : ∃ p, p = Lib.decDigits c := ⟨_, rfl⟩
  rw [← hp0] at H0 l0 ⊢
  rw [← hp1] at H1 l1 ⊢
  rw [← hp2] at H2 l2 ⊢
  rw [← hp3] at H3 l3 ⊢
  obtain ⟨q1, hq1⟩ : ∃ q, q = p0 ++ [62] := ⟨_, rfl⟩
  have n1 : q1.length ≤ 11 := by rw [hq1]; simp; omega
  have HA1 : Hid (∀ W, (Op.stringOp .add ⟨p0.toArray⟩ ⟨#[62]⟩).run Tryd.prog W = .ok (.string ⟨q1.toArray⟩) W) := fun W => by rw [hq1]; exact add_texts W p0 [62] (by first | omega | (simp; omega))
  rw [← hq1]
  obtain ⟨q2, hq2⟩ : ∃ q, q = q1 ++ p1 := ⟨_, rfl⟩
  have n2 : q2.length ≤ 17 := by rw [hq2]; simp; omega
  have HA2 : Hid (∀ W, (Op.stringOp .add ⟨q1.toArray⟩ ⟨p1.toArray⟩).run Tryd.prog W = .ok (.string ⟨q2.toArray⟩) W) := fun W => by rw [hq2]; exact add_texts W q1 p1 (by first | omega | (simp; omega))
  rw [← hq2]
  obtain ⟨q3, hq3⟩ : ∃ q, q = q2 ++ [58] := ⟨_, rfl⟩
  have n3 : q3.length ≤ 23 := by rw [hq3]; simp; omega
  have HA3 : Hid (∀ W, (Op.stringOp .add ⟨q2.toArray⟩ ⟨#[58]⟩).run Tryd.prog W = .ok (.string ⟨q3.toArray⟩) W) := fun W => by rw [hq3]; exact add_texts W q2 [58] (by first | omega | (simp; omega))
  rw [← hq3]
  obtain ⟨q4, hq4⟩ : ∃ q, q = q3 ++ p2 := ⟨_, rfl⟩
  have n4 : q4.length ≤ 29 := by rw [hq4]; simp; omega
  have HA4 : Hid (∀ W, (Op.stringOp .add ⟨q3.toArray⟩ ⟨p2.toArray⟩).run Tryd.prog W = .ok (.string ⟨q4.toArray⟩) W) := fun W => by rw [hq4]; exact add_texts W q3 p2 (by first | omega | (simp; omega))
  rw [← hq4]
  obtain ⟨q5, hq5⟩ : ∃ q, q = q4 ++ [46] := ⟨_, rfl⟩
  have n5 : q5.length ≤ 35 := by rw [hq5]; simp; omega
  have HA5 : Hid (∀ W, (Op.stringOp .add ⟨q4.toArray⟩ ⟨#[46]⟩).run Tryd.prog W = .ok (.string ⟨q5.toArray⟩) W) := fun W => by rw [hq5]; exact add_texts W q4 [46] (by first | omega | (simp; omega))
  rw [← hq5]
  obtain ⟨q6, hq6⟩ : ∃ q, q = q5 ++ p3 := ⟨_, rfl⟩
  have n6 : q6.length ≤ 41 := by rw [hq6]; simp; omega
  have HA6 : Hid (∀ W, (Op.stringOp .add ⟨q5.toArray⟩ ⟨p3.toArray⟩).run Tryd.prog W = .ok (.string ⟨q6.toArray⟩) W) := fun W => by rw [hq6]; exact add_texts W q5 p3 (by first | omega | (simp; omega))
  rw [← hq6]
  clear hq1 hq2 hq3 hq4 hq5 hq6 n1 n2 n3 n4 n5 n6 l0 l1 l2 l3
  clear hck h ht hp0 hp1 hp2 hp3
  go_enter Tryd.func28, Tryd.ntmps28
  go_wp2_with fail
  refine (HC.out _).mono ?_
  rintro en w1 ⟨rfl, hb⟩
  have h0 := (hb.block w.heap.size (by simp)).trans (heap_alloc_new w (.cells #[.int .i64 o, .int .i64 d, .int .i64 e, .int .i64 c] 23))
  have HB := Lib.hid (((Below.refl w.heap.size w).alloc (Nat.le_refl _) (.cells #[.int .i64 o, .int .i64 d, .int .i64 e, .int .i64 c] 23)).trans (hb.mono (by simp)))
  have HH := Lib.hid h0
  have hlt : w.heap.size < w1.heap.size := (Array.getElem?_eq_some_iff.1 h0).1
  clear hb h0
  go_wp2_with fail
  refine Free.wp_seq (I := fun w' => Below w1.heap.size w1 w') (Gr := fun w1 w2 => Below w1.heap.size w1 w2) (by kernel_rfl) (by kernel_rfl) (Below.refl _ _).drew ?_
  refine Free.Seq.val ?_ (fun _ => Below.refl _ _) (fun a w1 hI hp => ?_) ?_
  rotate_left
  · have e1 := hp.slotV 1 (by kernel_rfl) rfl; simp at e1
    refine ⟨Free.want_none rfl, ?_⟩
    clear hp
    go_simp
    rfl
  refine Free.Seq.val ?_ (fun _ => Below.refl _ _) (fun a w1 hI hp => ?_) ?_
  rotate_left
  · have e9 := hp.backV 0 0 rfl rfl rfl rfl rfl
    have k0 := (hI.cell (p := ⟨w.heap.size, 0, none⟩) hlt).trans (cell_of_cells HH.out 0)
    refine ⟨Free.want_none rfl, ?_⟩
    clear hp
    go_simp
    rfl
  refine Free.Seq.call (T := Free.eqF (.string ⟨p0.toArray⟩)) (fun _ _ _ h _ => h) (fun a w1 hI hp => ?_) ?_
  · have e10 := hp.backV 1 0 rfl rfl rfl rfl rfl
    refine ⟨Free.want_none rfl, 37, #[.int .i64 (o : Int)], ?_, ?_⟩
    · clear hp
      go_simp
    · refine (H0.out _).mono ?_
      rintro e w' ⟨rfl, hb⟩
      exact ⟨_, rfl, rfl, hb, hI.trans (hb.mono hI.size)⟩
  refine Free.Seq.val ?_ (fun _ => Below.refl _ _) (fun a w1 hI hp => ?_) ?_
  rotate_left
  · have e11 := hp.backV 2 0 rfl rfl rfl rfl rfl
    have ha := HA1.out w1
    refine ⟨Free.want_none rfl, ?_⟩
    clear hp
    go_simp
    rfl
  refine Free.Seq.val ?_ (fun _ => Below.refl _ _) (fun a w1 hI hp => ?_) ?_
  rotate_left
  · have e1 := hp.slotV 1 (by kernel_rfl) rfl; simp at e1
    refine ⟨Free.want_none rfl, ?_⟩
    clear hp
    go_simp
    rfl
  refine Free.Seq.val ?_ (fun _ => Below.refl _ _) (fun a w1 hI hp => ?_) ?_
  rotate_left
  · have e13 := hp.backV 4 0 rfl rfl rfl rfl rfl
    have k1 := (hI.cell (p := ⟨w.heap.size, 1, none⟩) hlt).trans (cell_of_cells HH.out 1)
    refine ⟨Free.want_none rfl, ?_⟩
    clear hp
    go_simp
    rfl
  refine Free.Seq.call (T := Free.eqF (.string ⟨p1.toArray⟩)) (fun _ _ _ h _ => h) (fun a w1 hI hp => ?_) ?_
  · have e14 := hp.backV 5 0 rfl rfl rfl rfl rfl
    refine ⟨Free.want_none rfl, 37, #[.int .i64 (d : Int)], ?_, ?_⟩
    · clear hp
      go_simp
    · refine (H1.out _).mono ?_
      rintro e w' ⟨rfl, hb⟩
      exact ⟨_, rfl, rfl, hb, hI.trans (hb.mono hI.size)⟩
  refine Free.Seq.val ?_ (fun _ => Below.refl _ _) (fun a w1 hI hp => ?_) ?_
  rotate_left
  · have e12 := hp.backV 3 3 rfl rfl rfl rfl rfl; have e15 := hp.backV 6 0 rfl rfl rfl rfl rfl
    have ha := HA2.out w1
    refine ⟨Free.want_none rfl, ?_⟩
    clear hp
    go_simp
    rfl
  refine Free.Seq.val ?_ (fun _ => Below.refl _ _) (fun a w1 hI hp => ?_) ?_
  rotate_left
  · have e16 := hp.backV 7 0 rfl rfl rfl rfl rfl
    have ha := HA3.out w1
    refine ⟨Free.want_none rfl, ?_⟩
    clear hp
    go_simp
    rfl
  refine Free.Seq.val ?_ (fun _ => Below.refl _ _) (fun a w1 hI hp => ?_) ?_
  rotate_left
  · have e1 := hp.slotV 1 (by kernel_rfl) rfl; simp at e1
    refine ⟨Free.want_none rfl, ?_⟩
    clear hp
    go_simp
    rfl
  refine Free.Seq.val ?_ (fun _ => Below.refl _ _) (fun a w1 hI hp => ?_) ?_
  rotate_left
  · have e18 := hp.backV 9 0 rfl rfl rfl rfl rfl
    have k2 := (hI.cell (p := ⟨w.heap.size, 2, none⟩) hlt).trans (cell_of_cells HH.out 2)
    refine ⟨Free.want_none rfl, ?_⟩
    clear hp
    go_simp
    rfl
  refine Free.Seq.call (T := Free.eqF (.string ⟨p2.toArray⟩)) (fun _ _ _ h _ => h) (fun a w1 hI hp => ?_) ?_
  · have e19 := hp.backV 10 0 rfl rfl rfl rfl rfl
    refine ⟨Free.want_none rfl, 37, #[.int .i64 (e : Int)], ?_, ?_⟩
    · clear hp
      go_simp
    · refine (H2.out _).mono ?_
      rintro e w' ⟨rfl, hb⟩
      exact ⟨_, rfl, rfl, hb, hI.trans (hb.mono hI.size)⟩
  refine Free.Seq.val ?_ (fun _ => Below.refl _ _) (fun a w1 hI hp => ?_) ?_
  rotate_left
  · have e17 := hp.backV 8 3 rfl rfl rfl rfl rfl; have e20 := hp.backV 11 0 rfl rfl rfl rfl rfl
    have ha := HA4.out w1
    refine ⟨Free.want_none rfl, ?_⟩
    clear hp
    go_simp
    rfl
  refine Free.Seq.val ?_ (fun _ => Below.refl _ _) (fun a w1 hI hp => ?_) ?_
  rotate_left
  · have e21 := hp.backV 12 0 rfl rfl rfl rfl rfl
    have ha := HA5.out w1
    refine ⟨Free.want_none rfl, ?_⟩
    clear hp
    go_simp
    rfl
  refine Free.Seq.val ?_ (fun _ => Below.refl _ _) (fun a w1 hI hp => ?_) ?_
  rotate_left
  · have e1 := hp.slotV 1 (by kernel_rfl) rfl; simp at e1
    refine ⟨Free.want_none rfl, ?_⟩
    clear hp
    go_simp
    rfl
  refine Free.Seq.val ?_ (fun _ => Below.refl _ _) (fun a w1 hI hp => ?_) ?_
  rotate_left
  · have e23 := hp.backV 14 0 rfl rfl rfl rfl rfl
    have k3 := (hI.cell (p := ⟨w.heap.size, 3, none⟩) hlt).trans (cell_of_cells HH.out 3)
    refine ⟨Free.want_none rfl, ?_⟩
    clear hp
    go_simp
    rfl
  refine Free.Seq.call (T := Free.eqF (.string ⟨p3.toArray⟩)) (fun _ _ _ h _ => h) (fun a w1 hI hp => ?_) ?_
  · have e24 := hp.backV 15 0 rfl rfl rfl rfl rfl
    refine ⟨Free.want_none rfl, 37, #[.int .i64 (c : Int)], ?_, ?_⟩
    · clear hp
      go_simp
    · refine (H3.out _).mono ?_
      rintro e w' ⟨rfl, hb⟩
      exact ⟨_, rfl, rfl, hb, hI.trans (hb.mono hI.size)⟩
  refine Free.Seq.val ?_ (fun _ => Below.refl _ _) (fun a w1 hI hp => ?_) ?_
  rotate_left
  · have e22 := hp.backV 13 3 rfl rfl rfl rfl rfl; have e25 := hp.backV 16 0 rfl rfl rfl rfl rfl
    have ha := HA6.out w1
    refine ⟨Free.want_none rfl, ?_⟩
    clear hp
    go_simp
    rfl
  refine Free.Seq.val ?_ (fun _ => Below.refl _ _) (fun a w1 hI hp => ?_) ?_
  rotate_left
  · have e26 := hp.backV 17 0 rfl rfl rfl rfl rfl
    refine ⟨Free.want_none rfl, ?_⟩
    clear hp
    go_simp
    rfl
  refine Free.Seq.val ?_ (fun _ => Below.refl _ _) (fun a w1 hI hp => ?_) ?_
  rotate_left
  · skip
    refine ⟨Free.want_none rfl, ?_⟩
    clear hp
    go_simp
    rfl
  refine Free.Seq.done (by simp) (fun wz hIz => ?_)
  simp only [List.reverse_cons, List.reverse_nil, List.nil_append, List.cons_append, Free.All, Free.eqF, forall_eq]
  skip
  simp only [Free.putL, Act.put, List.setIfInBounds_toArray, List.set_cons_zero, List.set_cons_succ]
  go_wp2
  go_ret2
  exact ⟨rfl, HB.out.trans (hIz.mono HB.out.size)⟩

/-- an id's text, none where it may not be -/
def tB (i : Mid) : List UInt8 := if chk i = 0 then textB i else []
theorem text_any (i : Mid) (w : World) (hd : Door w) : Calls Tryd.prog 27 #[idv i] w fun e w' => e = .returned (.tuple #[.string ⟨(tB i).toArray⟩, .int .i64 (chk i)]) ∧ Below w.heap.size w w' := by
  by_cases h : chk i = 0
  · have e : tB i = textB i := if_pos h
    rw [e, h]
    obtain ⟨x0, x1, x2, x3, rfl, h0, h1, h2, h3⟩ := in_nat h
    exact text_ok x0 x1 x2 x3 w h0 h1 h2 h3 h hd
  · have e : tB i = [] := if_neg h
    rw [e]
    exact text_bad i w h
theorem rtext_any (i : Mid) (w : World) : Calls Tryd.prog 28 #[idv i] w fun e w' => e = .returned (.tuple #[.string ⟨(tB i).toArray⟩, .int .i64 (chk i)]) ∧ Below w.heap.size w w' := by
  by_cases h : chk i = 0
  · have e : tB i = textB i := if_pos h
    rw [e, h]
    obtain ⟨x0, x1, x2, x3, rfl, h0, h1, h2, h3⟩ := in_nat h
    exact rtext_ok x0 x1 x2 x3 w h0 h1 h2 h3 h
  · have e : tB i = [] := if_neg h
    rw [e]
    exact rtext_bad i w h
end Go.Proofs.YtmdjjlgaflpcfaaDoor
