/-
  THE WALKS OF THE SUMS, STILL MORE: the reference's Add, Right and Turn; the statements' own helpers.
-/
import Derived.Test.YtcnlgcmooegfkaaCrcMade
import Derived.Test.YtcnlgcmooegfkaaFree
import Derived.Lib.SlBytesConst
namespace Go.Proofs.Ytcnlgcmooegfkaa
open Go.RowKit

theorem wrap_div256 (l : List UInt8) : IntKind.u16.wrap ((Crc.fcs l : Int) / 256) = (Crc.fcs l : Int) / 256 := by
  have : Crc.fcs l ≤ 65535 := by unfold Crc.fcs; omega
  exact IntWalk.u16_in _ ⟨by omega, by omega⟩

theorem flip_val (x : UInt8) (r : Nat) (hr : r < 8) : Value.int .u8 (bits .xor .u8 (x.toNat : Int) (2 ^ r % 256)) = bv (x ^^^ Crc.bit r) := by
  have hx := x.toNat_lt; have h2 : 2 ^ r < 256 := Nat.lt_of_lt_of_le (Nat.pow_lt_pow_right (by omega) hr) (by decide); have e : ((2 : Int) ^ r % 256) = ((2 ^ r : Nat) : Int) := by
    have : ((2 : Int) ^ r) = ((2 ^ r : Nat) : Int) := by simp
    rw [this]
    generalize 2 ^ r = y at h2 ⊢
    omega
  rw [e, u8_xor_nat _ _ (by simpa using hx) h2]; simp [bv, UInt8.toNat_xor, Crc.bit_toNat r hr]

theorem hit_bit (mask k : Nat) : (((mask : Int) / 2 ^ k).tmod 2 == 1) = (mask / 2 ^ k % 2 == 1) := by
  have e : ((mask : Int) / 2 ^ k) = ((mask / 2 ^ k : Nat) : Int) := by simp
  rw [e, Int.tmod_eq_emod_of_nonneg (Int.natCast_nonneg _), Bool.eq_iff_iff]; simp; omega

set_option maxHeartbeats 1000000 in
/-- portageref02.Turn -/
theorem turn_any (A : Option Addr) (n c : Nat) (l : List UInt8) (at' : Int) (mask size : Nat) (S : Int) (w : World) (hR : Rd w A n c l) (hn : n ≤ 140737488355000) (_hm : mask < 4294967296) (hs : size ≤ 32) (hS : S = (size : Int)) :
    Calls Try.prog 18 #[.slice A n c, .int .i64 at', .int .u32 (mask : Int), .int .i64 S] w fun e w' => ∃ A' c', e = .returned (.tuple #[.slice A' n c', .bool (Crc.turn l at' mask size).2]) ∧
      OwnB w' w.heap.size 5 (.slice A' n c') (Crc.turn l at' mask size).1 ∧ Below w.heap.size w w' := by
  subst hS; have hbig := hR.big; have hlen := Lib.hid hR.len
  by_cases h : at' < 0 ∨ 8 * (n : Int) ≤ at'
  · have HT : Hid (Crc.turn l at' mask size = (l, false)) := by
      show _ = _
      unfold Crc.turn; rw [if_pos (by rw [hlen.out]; exact h)]
    rcases h with h | h
    · go_enter Try.func18, Try.ntmps18
      go_wp2_with (at_builtin; refine wpList_app _ rfl elemB (.tmp 13) (.tmp 14) rfl rfl (own_empty _ w.heap.size _ _ 1 (by simp) (by omega)) rfl ((hR.stays (Stays.alloc w _)).src) n (by omega) (by omega) (by simp) ?_; intro A1 c1 w1 hown1 hg1 hat1)
      go_ret2
      rw [HT.out]; exact ⟨_, _, rfl, OwnB.of hown1 _ (by simp), below_app' ((Below.refl _ _).alloc (Nat.le_refl _) _) (own_empty _ w.heap.size _ _ 1 (by simp) (by omega)) hg1 (Nat.le_refl _) (by simp)⟩
    · by_cases h0 : at' < 0
      · omega
      · go_enter Try.func18, Try.ntmps18
        go_wp2_with (at_builtin; refine wpList_app _ rfl elemB (.tmp 13) (.tmp 14) rfl rfl (own_empty _ w.heap.size _ _ 1 (by simp) (by omega)) rfl ((hR.stays (Stays.alloc w _)).src) n (by omega) (by omega) (by simp) ?_; intro A1 c1 w1 hown1 hg1 hat1)
        go_ret2
        rw [HT.out]; exact ⟨_, _, rfl, OwnB.of hown1 _ (by simp), below_app' ((Below.refl _ _).alloc (Nat.le_refl _) _) (own_empty _ w.heap.size _ _ 1 (by simp) (by omega)) hg1 (Nat.le_refl _) (by simp)⟩
  · obtain ⟨off, rfl⟩ := Int.eq_ofNat_of_zero_le (show 0 ≤ at' by omega); have h1 : (off : Int) < 8 * (n : Int) := by omega
    have h2 : (0 : Int) ≤ (off : Int) := by omega
    have HT : Hid (Crc.turn l off mask size = Crc.turns off mask l size) := by
      show _ = _
      unfold Crc.turn; rw [if_neg (by rw [hlen.out]; exact h)]; rfl
    clear h
    go_enter Try.func18, Try.ntmps18
    go_wp2_with (at_builtin; refine wpList_app _ rfl elemB (.tmp 13) (.tmp 14) rfl rfl (own_empty _ w.heap.size _ _ 1 (by simp) (by omega)) rfl ((hR.stays (Stays.alloc w _)).src) n (by omega) (by omega) (by simp) ?_; intro A1 c1 w1 hown1 hg1 hat1)
    have hb1 := below_app' ((Below.refl _ _).alloc (Nat.le_refl _) _) (own_empty _ w.heap.size _ _ 1 (by simp) (by omega)) hg1 (Nat.le_refl _) (by simp); have ho1 := OwnB.of hown1 l (by simp); clear hown1 hg1 hat1
    go_loopw [11, 12] (fun t i wr => ∃ k : Nat, k ≤ size ∧ i = .int .i64 k ∧ t = .bool (Crc.turns off mask l k).2 ∧ OwnB wr w.heap.size 5 (.slice A1 n c1) (Crc.turns off mask l k).1 ∧ Below w.heap.size w wr) (fun _ i _ => size - (intOf i).toNat)
    case atStart => exact ⟨0, Nat.zero_le _, rfl, rfl, ho1, hb1⟩
    case round =>
      obtain ⟨k, hk, rfl, rfl, ho, hb⟩ := hrel
      by_cases hlt : k < size
      · have hLn : (Crc.turns off mask l k).1.length = n := by rw [Crc.turns_len, hlen.out]
        have HN : Hid (Crc.turns off mask l (k + 1) = if Crc.hits n off k mask then ((Crc.turns off mask l k).1.set ((off + k) / 8) ((Crc.turns off mask l k).1.getD ((off + k) / 8) 0 ^^^ Crc.bit ((off + k) % 8)), true) else Crc.turns off mask l k) := by
          show _ = _
          rw [← hlen.out]; rfl
        obtain ⟨L, hL⟩ : ∃ L, L = (Crc.turns off mask l k).1 := ⟨_, rfl⟩; obtain ⟨T, hT⟩ : ∃ T, T = (Crc.turns off mask l k).2 := ⟨_, rfl⟩; have HP : Hid (Crc.turns off mask l k = (L, T)) := by show _ = _; rw [hL, hT]
        rw [← hL] at ho hLn; rw [← hT]; rw [← hL] at HN; clear hL hT; obtain ⟨g, rfl, hg, hgl⟩ := ho.at_ hLn (by omega)
        by_cases hh : Crc.hits n off k mask
        · have ht : (((mask : Int) / 2 ^ k).tmod 2 == 1) = true := by rw [hit_bit]; simpa using hh.1
          have hi : (off + k) / 8 < n := by have := hh.2; omega
          have hin : (off : Int) + (k : Int) < 8 * (n : Int) := by have := hh.2; omega
          have hcell := ho.cell hLn _ hi; have hfree := ho.free hLn ((off + k) / 8); obtain ⟨x, hx⟩ : ∃ x, x = L.getD ((off + k) / 8) 0 := ⟨_, rfl⟩; rw [← hx] at hcell HN; clear hx; have HN2 : Hid (Crc.turns off mask l (k + 1) = (L.set ((off + k) / 8) (x ^^^ Crc.bit ((off + k) % 8)), true)) := by show _ = _; rw [HN.out, if_pos hh]
          clear HN hh
          go_wp2_with fail
          go_roundw
          case rel =>
            refine ⟨k + 1, by omega, by go_num, by rw [HN2.out], ?_, ?_⟩
            · rw [HN2.out]; rw [flip_val x _ (by omega)]; exact ho.store hLn _ _
            · exact hb.setCell hg _
          case measure => simp [intOf]; omega
        · have HN2 : Hid (Crc.turns off mask l (k + 1) = (L, T)) := by show _ = _; rw [HN.out, if_neg hh, HP.out]
          by_cases hb2 : mask / 2 ^ k % 2 = 1
          · have ht : (((mask : Int) / 2 ^ k).tmod 2 == 1) = true := by rw [hit_bit]; simpa using hb2
            have hin : ¬ ((off : Int) + (k : Int) < 8 * (n : Int)) := fun h => hh ⟨hb2, by omega⟩
            clear hb2 HN hh
            go_wp2_with fail
            go_roundw
            case rel => exact ⟨k + 1, by omega, by go_num, by rw [HN2.out], by rw [HN2.out]; exact ho, hb⟩
            case measure => simp [intOf]; omega
          · have ht : (((mask : Int) / 2 ^ k).tmod 2 == 1) = false := by rw [hit_bit]; simpa using hb2
            clear hb2 HN hh
            go_wp2_with fail
            go_roundw
            case rel => exact ⟨k + 1, by omega, by go_num, by rw [HN2.out], by rw [HN2.out]; exact ho, hb⟩
            case measure => simp [intOf]; omega
      · obtain rfl : k = size := by omega
        go_wp2
        go_ret2
        rw [HT.out]; exact ⟨_, _, rfl, ho, hb⟩

def nine : List UInt8 := [49, 50, 51, 52, 53, 54, 55, 56, 57]
def l1 : List UInt8 := nine.take 4
def l2 : List UInt8 := nine.drop 4
def l3 : List UInt8 := nine.take 2
def l4 : List UInt8 := nine.drop 2
end Go.Proofs.Ytcnlgcmooegfkaa
