/-
  A BYTE COMES TO A DECODER.
-/
import Derived.Test.YtpfilomckijmkaaHdlcEnd
namespace Go.Proofs.Ytpfilomckijmkaa
open Go.RowKit

/-- what is told of gathered bytes -/
def Hdl.tells (p : List UInt8) : List (List UInt8) := if (Hdl.kind p).1 = 0 then [(Hdl.kind p).2] else []

/-- what a byte leaves -/
def ByteP (w : World) (B C g : Nat) (d' : Hdl.Dec) (I T : Value) (told ls : List (List UInt8)) (e : Ending) (w' : World) : Prop :=
  ∃ I' T' xs', e = .returned (.tuple #[]) ∧ Dc w' B C g d' I' T' xs' (told ++ ls) ∧ Kept (DcS g I T) w w' ∧ Anew w I I' ∧ Anew w T T'

theorem anew_nil (w : World) (v : Value) : Anew w v (.slice none 0 0) := fun k e => by simp [Value.ownBlock] at e

/-- what was gathered is let go -/
theorem ByteP.emptied {w w1 : World} {B C g : Nat} {d d' : Hdl.Dec} {I T T0 : Value} {xs : List Value} {told ls : List (List UInt8)} (h : Dc w1 B C g d I T xs (told ++ ls)) (hk : Kept (DcS g I T0) w w1) (ha : Anew w T0 T) (b : Bool)
    (hd : d' = ⟨b, [], d.met⟩) :
    ByteP w B C g d' I T0 told ls (.returned (.tuple #[])) ((w1.setCell ⟨g, 0, none⟩ (.bool b)).setCell ⟨g, 1, none⟩ (.slice none 0 0)) := by
  subst hd
  have ho : ((w1.setCell ⟨g, 0, none⟩ (.bool b)).setCell ⟨g, 1, none⟩ (.slice none 0 0)).heap[g]? = some (.cells (dcs ⟨b, [], d.met⟩ (.slice none 0 0) T) 49 (0, 0)) := by
    rw [heap_setCell_same _ g 1 _ _ _ (heap_setCell_same w1 g 0 _ _ _ h.obj)]
    simp [dcs]
  exact ⟨_, T, xs, rfl, h.empty ho (((Kept.refl (fun k => k = g) w1).setCell (p := ⟨g, 0, none⟩) (.inl rfl) _).setCell (p := ⟨g, 1, none⟩) (.inl rfl) _) rfl,
    (hk.setCell (p := ⟨g, 0, none⟩) (.inl (.inl rfl)) _).setCell (p := ⟨g, 1, none⟩) (.inl (.inl rfl)) _, anew_nil _ _, ha⟩

set_option maxHeartbeats 1000000 in
theorem byte_flag0 (w : World) {B C g : Nat} {d : Hdl.Dec} {I T : Value} {xs : List Value} {told : List (List UInt8)} (b : UInt8) (h : Dc w B C g d I T xs told) (hb : b = 0x7e) (hh : d.hunts = true ∨ d.inn = []) :
    Calls Try.prog 22 #[.pointer (some ⟨g, 0, none⟩), .int .u8 (b.toNat : Int)] w (ByteP w B C g ⟨false, [], d.met⟩ I T told []) := by
  obtain ⟨Ai, ci, rfl, _⟩ := h.hi.form
  have c0 := h.cell 0
  have c1 := h.cell 1
  have f0 := h.fr 0
  have f1 := h.fr 1
  simp only [dcs] at c0 c1
  simp at c0 c1
  have HD := Lib.hid h
  subst hb
  clear h
  by_cases hu : d.hunts = true
  · rw [hu] at c0
    clear hh
    go_enter Try.func22, Try.ntmps22
    go_wp2
    go_end0
    exact ByteP.emptied (by rw [List.append_nil]; exact HD.out) (.refl _ _) (.refl _ _) false rfl
  · have hu' : d.hunts = false := by simpa using hu
    have hn : d.inn.length = 0 := by rcases hh with h | h; exact absurd h hu; rw [h]; rfl
    rw [hu'] at c0
    rw [hn] at c1
    have HN := Lib.hid hn
    clear hh hn
    go_enter Try.func22, Try.ntmps22
    go_wp2
    go_end0
    have hd := HD.out
    rw [HN.out] at hd
    exact ByteP.emptied (by rw [List.append_nil]; exact HD.out) (.refl _ _) (.refl _ _) false rfl

set_option maxHeartbeats 1000000 in
theorem byte_flag1 (w : World) {B C g : Nat} {d : Hdl.Dec} {I T : Value} {xs : List Value} {told : List (List UInt8)} (b : UInt8) (h : Dc w B C g d I T xs told) (hb : b = 0x7e) (hh : d.hunts = false) (hi : d.inn ≠ [])
    (hlen : d.inn.length ≤ 260) (hm : d.met.Le 4611686018427387904) (ht : told.length ≤ 1000000000000) :
    Calls Try.prog 22 #[.pointer (some ⟨g, 0, none⟩), .int .u8 (b.toNat : Int)] w (ByteP w B C g ⟨false, [], Hdl.count d.met (Hdl.kind d.inn).1⟩ I T told (Hdl.tells d.inn)) := by
  obtain ⟨Ai, ci, rfl, _⟩ := h.hi.form
  have c0 := h.cell 0
  have c1 := h.cell 1
  simp only [dcs] at c0 c1
  simp at c0 c1
  rw [hh] at c0
  have h0 : (0 : Int) < (d.inn.length : Int) := by have := List.length_pos_iff.2 hi; omega
  have HD := Lib.hid h
  have HM := Lib.hid hm
  subst hb
  clear h hh hm
  go_enter Try.func22, Try.ntmps22
  go_wp2_with fail
  refine (end_any w HD.out hlen HM.out ht).mono ?_
  rintro e w1 ⟨T', xs', rfl, hd', hk, ha⟩
  have hd : Dc w1 B C g ⟨d.hunts, d.inn, Hdl.count d.met (Hdl.kind d.inn).1⟩ (.slice Ai d.inn.length ci) T' xs' (told ++ Hdl.tells d.inn) := hd'
  clear hd'
  have f0 := hd.fr 0
  have f1 := hd.fr 1
  have c0' := hd.cell 0
  have c1' := hd.cell 1
  simp only [dcs] at c0' c1'
  simp at c0' c1'
  have HD1 := Lib.hid hd
  have HK := Lib.hid hk
  have HA := Lib.hid ha
  clear hd hk ha
  go_wp2
  go_end0
  exact ByteP.emptied HD1.out HK.out HA.out false rfl

set_option maxHeartbeats 1000000 in
theorem byte_hunts (w : World) {B C g : Nat} {d : Hdl.Dec} {I T : Value} {xs : List Value} {told : List (List UInt8)} (b : UInt8) (h : Dc w B C g d I T xs told) (hb : b ≠ 0x7e) (hh : d.hunts = true) :
    Calls Try.prog 22 #[.pointer (some ⟨g, 0, none⟩), .int .u8 (b.toNat : Int)] w (ByteP w B C g d I T told []) := by
  have c0 := h.cell 0
  simp only [dcs] at c0
  simp at c0
  rw [hh] at c0
  have HD := Lib.hid h
  obtain ⟨t1, _⟩ := tests b 126 126 rfl (by omega) false (by simpa using hb)
  clear h hb hh
  go_enter Try.func22, Try.ntmps22
  go_wp2
  go_end0
  exact ⟨_, _, _, rfl, by rw [List.append_nil]; exact HD.out, .refl _ _, .refl _ _, .refl _ _⟩

set_option maxHeartbeats 1000000 in
theorem byte_long (w : World) {B C g : Nat} {d : Hdl.Dec} {I T : Value} {xs : List Value} {told : List (List UInt8)} (b : UInt8) (h : Dc w B C g d I T xs told) (hb : b ≠ 0x7e) (hh : d.hunts = false) (hl : d.inn.length = 260) (hm : d.met.Le 4611686018427387904) :
    Calls Try.prog 22 #[.pointer (some ⟨g, 0, none⟩), .int .u8 (b.toNat : Int)] w (ByteP w B C g ⟨true, [], Hdl.count d.met 4⟩ I T told []) := by
  obtain ⟨Ai, ci, rfl, _⟩ := h.hi.form
  have c0 := h.cell 0
  have c1 := h.cell 1
  have c5 := h.cell 5
  have f0 := h.fr 0
  have f1 := h.fr 1
  have f5 := h.fr 5
  simp only [dcs] at c0 c1 c5
  simp at c0 c1 c5
  rw [hh] at c0
  rw [hl] at c1
  have HD := Lib.hid h
  obtain ⟨t1, _⟩ := tests b 126 126 rfl (by omega) false (by simpa using hb)
  obtain ⟨_, _, _, m4, _⟩ := hm
  have hw := wrap_up m4
  have HL := Lib.hid hl
  clear h hb hh hl
  go_enter Try.func22, Try.ntmps22
  go_wp2
  go_end0
  have hD := HD.out
  have hd2 := hD.same (d' := ⟨d.hunts, d.inn, Hdl.count d.met 4⟩) (w' := w.setCell ⟨g, 5, none⟩ (.int .i64 ((d.met.long : Int) + 1))) (by rw [heap_setCell_same w g 5 _ _ _ hD.obj]; simp [dcs, Hdl.count]) ((Kept.refl (fun k => k = g) w).setCell (p := ⟨g, 5, none⟩) (.inl rfl) _) rfl
  exact ByteP.emptied (by rw [List.append_nil]; exact hd2) ((Kept.refl _ _).setCell (p := ⟨g, 5, none⟩) (.inl (.inl rfl)) _) (.refl _ _) true rfl

set_option maxHeartbeats 1000000 in
theorem byte_in (w : World) {B C g : Nat} {d : Hdl.Dec} {I T : Value} {xs : List Value} {told : List (List UInt8)} (b : UInt8) (h : Dc w B C g d I T xs told) (hb : b ≠ 0x7e) (hh : d.hunts = false) (hl : d.inn.length < 260) :
    Calls Try.prog 22 #[.pointer (some ⟨g, 0, none⟩), .int .u8 (b.toNat : Int)] w (ByteP w B C g ⟨false, d.inn ++ [b], d.met⟩ I T told []) := by
  have hlow := h.low
  have hlt := h.lt
  obtain ⟨Ai, ci, rfl, _⟩ := h.hi.form
  have c0 := h.cell 0
  have c1 := h.cell 1
  simp only [dcs] at c0 c1
  simp at c0 c1
  rw [hh] at c0
  have HD := Lib.hid h
  obtain ⟨t1, _⟩ := tests b 126 126 rfl (by omega) false (by simpa using hb)
  have t2 : ((d.inn.length : Int) == 260) = false := by simp; omega
  have HH := Lib.hid hh
  clear h hb hh
  go_enter Try.func22, Try.ntmps22
  go_wp2_with ((with_reducible show wpList _ _ _ (⟨some 11, _, _, _, _, _⟩ :: _) _ _); refine wpList_slapp _ rfl elemB (.tmp 8) (.tmp 10) rfl rfl (HD.out.below ((Below.refl _ _).alloc (Nat.le_refl _) _)).hi rfl (Src.new' w _ rfl [bv b] _ 1 1 rfl (by simp [Value.oneCell'])) (d.inn.length + 1) rfl (by omega) (by simp; omega) ?_; intro A3 c3 w3 hs3 hg3' ha3'; have hg3 : (w.alloc (.cells #[bv b] 5)).grownBy w3 (Value.ownBlock (.slice Ai d.inn.length ci)) := hg3'; have ha3 : Anew (w.alloc (.cells #[bv b] 5)) (.slice Ai d.inn.length ci) (.slice A3 (d.inn.length + 1) c3) := ha3'; clear hg3' ha3'; have hfin := (HD.out.below ((Below.refl _ _).alloc (Nat.le_refl _) (.cells #[bv b] 5))).gather hg3 (l := d.inn ++ [b]) (by rw [List.length_append, List.length_singleton, bs_append]; exact hs3) ha3; have hob := (HD.out.below ((Below.refl _ _).alloc (Nat.le_refl _) (.cells #[bv b] 5))); have hcell := cell_of_cells (hg3.block g hob.lt (fun e => hob.ine e.symm) ▸ hob.obj) 1; have hfr := frozen_of_row w3 g 1 _ _ (hg3.block g hob.lt (fun e => hob.ine e.symm) ▸ hob.obj); have HF := Lib.hid hfin; have HG := Lib.hid hg3; have HA3 := Lib.hid ha3; clear hfin hg3 ha3 hs3 hob; simp [dcs] at hcell)
  go_end0
  have hal : Anew w (.slice Ai d.inn.length ci) (.slice A3 (d.inn.length + 1) c3) := fun k e => (HA3.out k e).imp id (fun h => by simp at h; omega)
  have hk := ((Kept.refl (DcS g (.slice Ai d.inn.length ci) T) w).alloc (.cells #[bv b] 5)).grown HG.out (fun k e => .inl (.inr (.inl e)))
  refine ⟨_, T, xs, rfl, by rw [List.append_nil, ← HH.out]; exact HF.out, hk.setCell (p := ⟨g, 1, none⟩) (.inl (.inl rfl)) _, hal, .refl _ _⟩

theorem byte_any (w : World) {B C g : Nat} {d : Hdl.Dec} {I T : Value} {xs : List Value} {told : List (List UInt8)} (b : UInt8) (h : Dc w B C g d I T xs told) (hok : Hdl.Ok d) (hm : d.met.Le 4611686018427387904) (ht : told.length ≤ 1000000000000) :
    Calls Try.prog 22 #[.pointer (some ⟨g, 0, none⟩), .int .u8 (b.toNat : Int)] w (ByteP w B C g (Hdl.step d b).1 I T told (Hdl.step d b).2) := by
  by_cases hb : b = 0x7e
  · by_cases hh : d.hunts = true ∨ d.inn = []
    · have e : Hdl.step d b = (⟨false, [], d.met⟩, []) := by simp [Hdl.step, hb, hh]
      rw [e]
      exact byte_flag0 w b h hb hh
    · have e : Hdl.step d b = (⟨false, [], Hdl.count d.met (Hdl.kind d.inn).1⟩, Hdl.tells d.inn) := by simp [Hdl.step, hb, hh, Hdl.tells]
      rw [e]
      have hu : d.hunts = false := by cases h0 : d.hunts with
        | true => exact absurd (.inl h0) hh
        | false => rfl
      exact byte_flag1 w b h hb hu (fun e => hh (.inr e)) hok.1 hm ht
  · by_cases hh : d.hunts = true
    · have e : Hdl.step d b = (d, []) := by simp [Hdl.step, hb, hh]
      rw [e]
      exact byte_hunts w b h hb hh
    · have hu : d.hunts = false := by simpa using hh
      by_cases hl : d.inn.length = 260
      · have e : Hdl.step d b = (⟨true, [], Hdl.count d.met 4⟩, []) := by simp [Hdl.step, hb, hu, hl]
        rw [e]
        exact byte_long w b h hb hu hl hm
      · have e : Hdl.step d b = (⟨false, d.inn ++ [b], d.met⟩, []) := by simp [Hdl.step, hb, hu, hl]
        rw [e]
        exact byte_in w b h hb hu (by have := hok.1; omega)
end Go.Proofs.Ytpfilomckijmkaa
