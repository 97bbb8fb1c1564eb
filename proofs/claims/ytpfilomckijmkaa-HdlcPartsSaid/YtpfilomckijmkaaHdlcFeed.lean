/-
  BYTES COME TO A DECODER.
-/
import Derived.Test.YtpfilomckijmkaaHdlcByte
namespace Go.Proofs.Ytpfilomckijmkaa
open Go.RowKit

/-- what is so at a round's head -/
def FeedI (w : World) (B C g : Nat) (d : Hdl.Dec) (I T : Value) (told : List (List UInt8)) (l : List UInt8) (wr : World) : Prop :=
  ∃ I' T' xs', Dc wr B C g (Hdl.feed d l).1 I' T' xs' (told ++ (Hdl.feed d l).2) ∧ Kept (DcS g I T) w wr ∧ Anew w I I' ∧ Anew w T T'

theorem dcs_anew {w : World} {g : Nat} {I T I' T' : Value} (hi : Anew w I I') (ht : Anew w T T') : ∀ i, i < w.heap.size → DcS g I' T' i → DcS g I T i := by
  rintro i h (h1 | h1 | h1)
  · exact .inl h1
  · rcases hi i h1 with h2 | h2
    · exact .inr (.inl h2)
    · omega
  · rcases ht i h1 with h2 | h2
    · exact .inr (.inr h2)
    · omega

/-- what a feed leaves, and tells -/
def FeedP (w : World) (B C g : Nat) (d' : Hdl.Dec) (I T : Value) (ls : List (List UInt8)) (e : Ending) (w' : World) : Prop :=
  ∃ I' A c xs', e = .returned (.slice A ls.length c) ∧ Dc w' B C g d' I' (.slice none 0 0) [] [] ∧ Sl w' B 25 (.slice A ls.length c) ls.length xs' ∧ Told w' C I' xs' ls ∧ Kept (DcS g I T) w w' ∧ Anew w I I' ∧ Anew w T (.slice A ls.length c)

theorem FeedI.next {w wr w1 : World} {B C g : Nat} {d : Hdl.Dec} {I T I' T' : Value} {told : List (List UInt8)} {l : List UInt8} {k : Nat} {x : UInt8} {e : Ending} (hx : l[k]? = some x) (hkp : Kept (DcS g I T) w wr) (hi : Anew w I I') (hti : Anew w T T')
    (h : ByteP wr B C g (Hdl.step (Hdl.feed d (l.take k)).1 x).1 I' T' (told ++ (Hdl.feed d (l.take k)).2) (Hdl.step (Hdl.feed d (l.take k)).1 x).2 e w1) : e = .returned (.tuple #[]) ∧ Hid (FeedI w B C g d I T told (l.take (k + 1)) w1) := by
  obtain ⟨I2, T2, xs2, rfl, hd, hk, h1, h2⟩ := h
  have e : l.take (k + 1) = l.take k ++ [x] := by rw [List.take_add_one, hx]; rfl
  refine ⟨rfl, I2, T2, xs2, ?_, hkp.trans hk (dcs_anew hi hti), hi.trans h1 hkp.size, hti.trans h2 hkp.size⟩
  rw [e, Hdl.feed_snoc]
  rw [List.append_assoc] at hd
  exact hd

set_option maxHeartbeats 1000000 in
theorem dfeed_any (w : World) {B C g : Nat} {d : Hdl.Dec} {I T : Value} {xs : List Value} {told : List (List UInt8)} (A : Option Addr) (n c : Nat) (l : List UInt8) (h : Dc w B C g d I T xs told) (hR : Rd w A n c l) (hA : 0 < n → ∀ b off, A = some ⟨b, off, none⟩ → ¬ DcS g I T b)
    (hok : Hdl.Ok d) (M : Nat) (hm : d.met.Le M) (hM : M + n ≤ 4611686018427387904) (ht : told.length + n ≤ 1000000000000) :
    Calls Try.prog 12 #[.pointer (some ⟨g, 0, none⟩), .slice A n c] w (FeedP w B C g (Hdl.feed d l).1 I T (told ++ (Hdl.feed d l).2)) := by
  have HD := Lib.hid h
  have HR := Lib.hid hR
  have HOK := Lib.hid hok
  have HM := Lib.hid hm
  have HA := Lib.hid hA
  have HI : Hid (FeedI w B C g d I T told [] w) := ⟨I, T, xs, by simp only [Hdl.feed, List.append_nil]; exact h, .refl _ _, .refl _ _, .refl _ _⟩
  clear h hR hok hm hA
  go_enter Try.func12, Try.ntmps12
  go_wp2
  go_loopw [15] (fun i wr => ∃ k : Nat, k ≤ n ∧ i = .int .i64 k ∧ Hid (FeedI w B C g d I T told (l.take k) wr)) (fun i _ => n - (intOf i).toNat)
  case atStart => exact ⟨0, Nat.zero_le _, rfl, by rw [List.take_zero]; exact HI⟩
  case round =>
    obtain ⟨k, hk, rfl, hI⟩ := hrel
    by_cases hlt : k < n
    · obtain ⟨b, off, x, rfl, hb, hx, hc⟩ := HR.out.at' hlt
      obtain ⟨I', T', xs', hd, hkp, hi, hti⟩ := hI.out
      have hcw : wr.cell? ⟨b, off + k, none⟩ = some (bv x) := (World.cell?_of_block (w := w) (a := ⟨b, off + k, none⟩) (hkp.block b hb (HA.out (by omega) b off rfl))).trans hc
      have HX := Lib.hid hx
      clear hc hx
      have hle := Hdl.le_feed (l.take k) HM.out
      have htl := Hdl.told_feed (l.take k) d
      have hlk : (l.take k).length ≤ k := List.length_take_le _ _
      go_wp2_with fail
      refine (byte_any wr x hd (Hdl.ok_feed (l.take k) HOK.out) (hle.mono (by omega)) (by rw [List.length_append]; omega)).mono ?_
      intro e w1 hp
      obtain ⟨rfl, hn⟩ := FeedI.next HX.out hkp hi hti hp
      clear hp hd hkp hi hti hcw
      go_wp2
      go_roundw
      case rel => exact ⟨k + 1, by omega, by go_num, hn⟩
      case measure => simp [intOf]; omega
    · obtain rfl : k = n := by omega
      rw [List.take_of_length_le (by rw [HR.out.len]; omega)] at hI
      obtain ⟨I', T', xs', hd, hkp, hi, hti⟩ := hI.out
      obtain ⟨AT, cT, rfl, _⟩ := hd.ht.form
      obtain ⟨N, hN⟩ : ∃ N, N = (told ++ (Hdl.feed d l).2).length := ⟨_, rfl⟩
      have c7 : wr.cell? ⟨g, 7, none⟩ = some (.slice AT N cT) := by rw [hN]; exact hd.cell 7
      have HN := Lib.hid hN
      clear hN
      have f7 := hd.fr 7
      have HD := Lib.hid hd
      have HK := Lib.hid hkp
      have H1 := Lib.hid hi
      have H2 := Lib.hid hti
      clear hI hd hkp hi hti
      go_wp2
      go_ret
      have hd := HD.out
      have hkk : Kept (fun k => k = g) wr (wr.setCell ⟨g, 7, none⟩ (.slice none 0 0)) := (Kept.refl (fun k => k = g) wr).setCell (p := ⟨g, 7, none⟩) (.inl rfl) _
      have ht := hd.handed (by rw [heap_setCell_same wr g 7 _ _ _ hd.obj]; simp [dcs]) hkk
      refine ⟨I', AT, cT, xs', by rw [← HN.out]; rfl, ht, ?_, ?_, HK.out.setCell (p := ⟨g, 7, none⟩) (.inl (.inl rfl)) _, H1.out, H2.out⟩
      · exact hd.ht.kept fun k e => hkk.block k (hd.ht.lt k e).2 (by rintro rfl; exact hd.tne e)
      · exact hd.tl.kept (fun k _ e _ => hkk.block k (Array.getElem?_eq_some_iff.1 e).1 (by rintro rfl; exact ty_ne e hd.obj (by decide) rfl)) (.refl _ _)
end Go.Proofs.Ytpfilomckijmkaa
