/-
  bytes.Cut AT ONE BYTE.
-/
import Derived.Test.YtiffbmnenbnglaaStuffWalk
import Derived.Test.YtiffbmnenbnglaaShelf03
import Derived.Lib.IndexLaws
import Derived.BigRegion
namespace Go.Proofs.Ytiffbmnenbnglaa
open Go.RowKit

/-- what stands ahead of the first such byte, what behind it, is there one -/
def cutB : List UInt8 → UInt8 → List UInt8 × List UInt8 × Bool
  | [], _ => ([], [], false)
  | b :: l, c => if b = c then ([], l, true) else (b :: (cutB l c).1, (cutB l c).2.1, (cutB l c).2.2)
theorem cutB_miss : ∀ (l : List UInt8) (c : UInt8), Lib.indexByte l c = -1 → cutB l c = (l, [], false)
  | [], _, _ => rfl
  | b :: l, c, h => by
    unfold Lib.indexByte at h
    unfold cutB
    by_cases e : b = c
    · subst e; simp at h
    · rw [if_neg e]
      have hge := Lib.indexByte_ge l c
      by_cases h2 : Lib.indexByte l c = -1
      · rw [cutB_miss l c h2]
      · exfalso
        simp [e, h2] at h
        omega
theorem cutB_hit : ∀ (l : List UInt8) (c : UInt8) (i : Nat), Lib.indexByte l c = i → i < l.length ∧ cutB l c = (l.take i, l.drop (i + 1), true)
  | [], _, i, h => by unfold Lib.indexByte at h; omega
  | b :: l, c, i, h => by
    unfold Lib.indexByte at h
    unfold cutB
    by_cases e : b = c
    · subst e
      simp at h
      obtain rfl : i = 0 := by omega
      simp
    · rw [if_neg e]
      have hge := Lib.indexByte_ge l c
      by_cases h2 : Lib.indexByte l c = -1
      · simp [e, h2] at h
      · simp [e, h2] at h
        obtain ⟨j, rfl⟩ : ∃ j, i = j + 1 := ⟨i - 1, by omega⟩
        obtain ⟨h3, h4⟩ := cutB_hit l c j (by omega)
        rw [h4]
        simp [h3]

/-- a slice's place: none, or a row's -/
def Plc (A : Option Addr) (c : Nat) : Prop := (A = none ∧ c = 0) ∨ ∃ b off, A = some ⟨b, off, none⟩
/-- .. a row below n0 -/
def PlcN (n0 : Nat) (A : Option Addr) (c : Nat) : Prop := (A = none ∧ c = 0) ∨ ∃ b off, b < n0 ∧ A = some ⟨b, off, none⟩
theorem PlcN.plc {n0 : Nat} {A : Option Addr} {c : Nat} (h : PlcN n0 A c) : Plc A c := h.imp id fun ⟨b, off, _, e⟩ => ⟨b, off, e⟩
theorem ixbyte_any (A : Option Addr) (n c : Nat) (l : List UInt8) (x : UInt8) (w : World) (hR : Rd w A n c l) (hA : Plc A c) : Calls Try.prog 24 #[.slice A n c, .int .u8 (x.toNat : Int)] w fun e w' => e = .returned (.int .i64 (Lib.indexByte l x)) ∧ w' = w := by
  have hx : ((x.toNat : Int)).toNat.toUInt8 = x := by simp
  rcases Nat.eq_zero_or_pos n with h0 | h0
  · subst h0
    have hl : l = [] := List.eq_nil_of_length_eq_zero hR.len
    subst hl
    rcases hA with ⟨rfl, rfl⟩ | ⟨b, off, rfl⟩
    · exact Try.bytes_IndexByte_nil (x.toNat : Int) w
    · exact Try.bytes_IndexByte b off 0 c [] (x.toNat : Int) w rfl (fun i h => absurd h (by omega))
  · obtain ⟨b, off, rfl, hb, hc⟩ := hR.at_ h0
    have hl := hR.len
    have hbo : Lib.bytesOf (l.map fun y => (y.toNat : Int)) = l := by
      unfold Lib.bytesOf
      rw [List.map_map]
      conv => rhs; rw [← List.map_id l]
      congr 1
      funext y
      simp
    have := Try.bytes_IndexByte b off n c (l.map fun y => (y.toNat : Int)) (x.toNat : Int) w (by simpa using hl) (fun i hi => by
      have h2 : i < l.length := by omega
      have := hc i l[i] (List.getElem?_eq_getElem h2)
      rw [this]
      simp [bv, h2])
    rw [hbo, hx] at this
    exact this

set_option maxRecDepth 100000 in
set_option maxHeartbeats 1000000 in
theorem bindex_any (A : Option Addr) (n c g : Nat) (l : List UInt8) (x : UInt8) (w : World) (hR : Rd w A n c l) (hA : Plc A c) (hg : w.cell? ⟨g, 0, none⟩ = some (bv x)) : Calls Try.prog 23 #[.slice A n c, .slice (some ⟨g, 0, none⟩) 1 1] w fun e w' => e = .returned (.int .i64 (Lib.indexByte l x)) ∧ w' = w := by
  have HI := Lib.hid (fun W h => ixbyte_any A n c l x W h hA)
  obtain ⟨z, hz⟩ : ∃ z, z = Lib.indexByte l x := ⟨_, rfl⟩
  rw [← hz] at HI ⊢
  have HR := Lib.hid hR
  clear hz hR hA
  unfold bv at hg
  go_enter Try.func23, Try.ntmps23
  go_wp2_with fail
  refine (HI.out _ HR.out).mono ?_
  rintro e w1 ⟨rfl, rfl⟩
  go_wp2
  go_ret
  exact ⟨rfl, rfl⟩

set_option maxRecDepth 100000 in
set_option maxHeartbeats 1000000 in
theorem bcut_any (n0 : Nat) (A : Option Addr) (n c g : Nat) (l : List UInt8) (x : UInt8) (w : World) (hR : Rd w A n c l) (hA : PlcN n0 A c) (hg : w.cell? ⟨g, 0, none⟩ = some (bv x)) :
    Calls Try.prog 22 #[.slice A n c, .slice (some ⟨g, 0, none⟩) 1 1] w fun e w' => ∃ A1 c1 A2 c2, e = .returned (.tuple #[.slice A1 (cutB l x).1.length c1, .slice A2 (cutB l x).2.1.length c2, .bool (cutB l x).2.2]) ∧ PlcN n0 A1 c1 ∧ PlcN n0 A2 c2 ∧ Rd w A1 (cutB l x).1.length c1 (cutB l x).1 ∧ Rd w A2 (cutB l x).2.1.length c2 (cutB l x).2.1 ∧ Below w.heap.size w w' := by
  have hI := fun W h k => bindex_any A n c g l x W h hA.plc k
  have hge := Lib.indexByte_ge l x
  have hl := hR.len
  by_cases hm : Lib.indexByte l x = -1
  · rw [cutB_miss l x hm]
    rw [hm] at hI
    have HI := Lib.hid hI
    have HR := Lib.hid hR
    have HA := Lib.hid hA
    simp only [hl, List.length_nil]
    clear hI hge hm hR hA hl
    go_enter Try.func22, Try.ntmps22
    go_wp2_with fail
    refine (HI.out _ HR.out hg).mono ?_
    rintro e w1 ⟨rfl, rfl⟩
    go_wp2
    go_ret3
    exact ⟨A, c, none, 0, rfl, HA.out, .inl ⟨rfl, rfl⟩, HR.out, Rd.nil _ _ _, Below.refl _ _⟩
  · obtain ⟨i, hi⟩ := Int.eq_ofNat_of_zero_le (show 0 ≤ Lib.indexByte l x by omega)
    obtain ⟨hlt, hc⟩ := cutB_hit l x i hi
    rw [hc]
    rw [hi] at hI
    obtain ⟨b, off, rfl, hb, _⟩ := hR.at_ (by omega)
    have hbn : b < n0 := by
      rcases hA with ⟨e, _⟩ | ⟨b', o', h', e⟩
      · cases e
      · cases e; exact h'
    have HBN := Lib.hid hbn
    clear hbn
    have hcap := hR.cap
    have ht := hR.take (k := i) (by omega)
    have hd := hR.drop (k := i + 1) (by omega)
    have HI := Lib.hid hI
    have HR := Lib.hid hR
    have HT := Lib.hid ht
    have e1 : (l.take i).length = i := by simp; omega
    have e2 : (l.drop (i + 1)).length = n - (i + 1) := by simp [hl]
    simp only [e1, e2]
    have c1 : (0 : Int) ≤ (i : Int) := by omega
    have c2 : (i : Int) ≤ (n : Int) := by omega
    have c3 : (0 : Int) ≤ (i : Int) + 1 := by omega
    have c4 : (i : Int) + 1 ≤ (n : Int) := by omega
    have hbig := hR.big
    have c5 : i ≤ c := by omega
    have c6 : wrap64 ((i : Int) + 1) = (i : Int) + 1 := by unfold wrap64; omega
    clear hI hge hm hi hc hR ht e1 e2 hA hbig
    by_cases hci : c = i + 1
    · subst hci
      obtain rfl : n = i + 1 := by omega
      have hd' : Rd w (some ⟨b, off, none⟩) (i + 1 - (i + 1)) (i + 1 - (i + 1)) (l.drop (i + 1)) := by simpa [Addr.add] using hd
      simp only [Nat.sub_self] at hd' ⊢
      have HD := Lib.hid hd'
      clear hd hd'
      go_enter Try.func22, Try.ntmps22
      go_wp2_with fail
      refine (HI.out _ HR.out hg).mono ?_
      rintro e w1 ⟨rfl, rfl⟩
      go_wp2_with fail
      go_region
      go_wp2
      go_ret3
      exact ⟨_, _, _, _, rfl, .inr ⟨_, _, HBN.out, rfl⟩, .inr ⟨_, _, HBN.out, rfl⟩, HT.out, HD.out, (Below.refl _ _).drew⟩
    · have hd' : Rd w (some ⟨b, off + (i + 1), none⟩) (n - (i + 1)) (c - (i + 1)) (l.drop (i + 1)) := by simpa [hci, Addr.add] using hd
      have HD := Lib.hid hd'
      clear hd hd'
      go_enter Try.func22, Try.ntmps22
      go_wp2_with fail
      refine (HI.out _ HR.out hg).mono ?_
      rintro e w1 ⟨rfl, rfl⟩
      go_wp2_with fail
      go_region
      go_wp2
      go_ret3
      exact ⟨_, _, _, _, rfl, .inr ⟨_, _, HBN.out, rfl⟩, .inr ⟨_, _, HBN.out, rfl⟩, HT.out, HD.out, (Below.refl _ _).drew⟩
end Go.Proofs.Ytiffbmnenbnglaa
