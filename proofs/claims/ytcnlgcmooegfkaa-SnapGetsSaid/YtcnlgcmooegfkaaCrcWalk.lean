/-
  THE WALKS OF THE SUMS: what crc's and portageref02's functions that only compute give, said with the plain law's words.
-/
import Derived.Test.YtcnlgcmooegfkaaKit
import Derived.Test.YtcnlgcmooegfkaaCrcMath
namespace Go.Proofs.Ytcnlgcmooegfkaa
open Go.RowKit

theorem low_bit (n : Nat) (hn : n < 4294967296) : bits .and .u32 (n : Int) 1 = ((n % 2 : Nat) : Int) := by
  have h := u32_and_nat n 1 hn (by omega); rw [Nat.and_one_is_mod] at h
  exact_mod_cast h

set_option maxHeartbeats 400000 in
theorem down_any (n p : Nat) (P : Int) (hn : n < 4294967296) (hp : p < 4294967296) (hP : P = (p : Int)) (w : World) :
    Calls Try.prog 41 #[.int .u32 (n : Int), .int .u32 P] w fun e w' => e = .returned (.int .u32 (Crc.down p n : Int)) ∧ w = w' := by
  subst hP; have e1 := u32_xor_nat (n / 2) p (by omega) hp; have e2 := low_bit n hn
  by_cases h : n % 2 = 1
  · have hd : Crc.down p n = n / 2 ^^^ p := by rw [Crc.down, if_pos h]
    have ht : (bits .and .u32 (n : Int) 1 == 1) = true := by rw [e2, h]; rfl
    clear e2; have He := Lib.hid e1; clear e1; rw [hd]; clear hd
    go_enter Try.func41, Try.ntmps41
    go_wp2
    go_ret
    exact ⟨ret_int (by rw [← He.out]; simp), rfl⟩
  · have hd : Crc.down p n = n / 2 := by rw [Crc.down, if_neg h]
    have ht : (bits .and .u32 (n : Int) 1 == 1) = false := by rw [e2]; simp; omega
    clear e2 e1; rw [hd]; clear hd
    go_enter Try.func41, Try.ntmps41
    go_wp2
    go_ret
    exact ⟨ret_int (by simp), rfl⟩

theorem downs_succ (p k n : Nat) : Crc.downs p (k + 1) n = Crc.down p (Crc.downs p k n) := by
  rw [Crc.downs_add]; rfl

theorem run_take (p n : Nat) (l : List UInt8) (k : Nat) (x : UInt8) (h : l[k]? = some x) : Crc.run p n (l.take (k + 1)) = Crc.step p (Crc.run p n (l.take k)) x := by
  rw [List.take_add_one, h]; exact Crc.run_snoc _ _ _ _
theorem not16 (z : Nat) (h : z < 65536) : bits .xor .u16 IntKind.u16.max (z : Int) = ((65535 - z : Nat) : Int) := by
  have e := u16_xor_nat 65535 z (by omega) h; have e2 := Crc.xor_ones 16 z h; rw [show (65535 ^^^ z) = 65535 - z from e2] at e; exact e
theorem not32 (z : Nat) (h : z < 4294967296) : bits .xor .u32 IntKind.u32.max (z : Int) = ((4294967295 - z : Nat) : Int) := by
  have e := u32_xor_nat 4294967295 z (by omega) h; have e2 := Crc.xor_ones 32 z h; rw [show (4294967295 ^^^ z) = 4294967295 - z from e2] at e; exact e
theorem run16_lt (l : List UInt8) (n : Nat) (h : n < 65536) : Crc.run Crc.P16 n l < 65536 := Crc.run_lt (k := 15) Crc.p16_hi (by decide) l n h
theorem run32_lt (l : List UInt8) (n : Nat) (h : n < 4294967296) : Crc.run Crc.P32 n l < 4294967296 := Crc.run_lt (k := 31) Crc.p32_hi (by decide) l n h

set_option maxHeartbeats 1000000 in
/-- crc.Sum -/
theorem sum_any (A : Option Addr) (n c : Nat) (ls : List (List UInt8)) (w : World) (hR : RdL w A n c ls) :
    Calls Try.prog 24 #[.slice A n c] w fun e w' => e = .returned (.int .u32 (Crc.sum ls.flatten : Int)) ∧ w = w' := by
  have hbig := hR.big
  go_enter Try.func24, Try.ntmps24
  go_wp2_with fail
  go_loop [3, 10] (fun v i => ∃ k z : Nat, k ≤ n ∧ i = .int .i64 k ∧ v = .int .u32 (z : Int) ∧ z < 4294967296 ∧ Hid (z = Crc.run Crc.P32 4294967295 (ls.take k).flatten)) (fun _ i => n - (intOf i).toNat)
  case atStart => exact ⟨0, 4294967295, Nat.zero_le _, rfl, rfl, by omega, rfl⟩
  case round =>
    obtain ⟨k, z, hk, rfl, rfl, hz, HZ⟩ := hrel
    by_cases hlt : k < n
    · obtain ⟨b, off, l, A', n', c', rfl, hb, hl, hcell, hr⟩ := hR.at' hlt; have hbig' := hr.big; have HL := Lib.hid hl; clear hl
      go_wp2_with fail
      go_loop [3, 16] (fun v i => ∃ j y : Nat, j ≤ n' ∧ i = .int .i64 j ∧ v = .int .u32 (y : Int) ∧ y < 4294967296 ∧ Hid (y = Crc.run Crc.P32 z (l.take j))) (fun _ i => n' - (intOf i).toNat)
      case atStart => exact ⟨0, z, Nat.zero_le _, rfl, rfl, hz, rfl⟩
      case round =>
        obtain ⟨j, y, hj, rfl, rfl, hy, HY⟩ := hrel
        by_cases hlt' : j < n'
        · obtain ⟨b', off', x, rfl, hb', hx, hcell'⟩ := hr.at' hlt'; have HX := Lib.hid hx; clear hx; have hb := x.toNat_lt; have hx' : x.toNat < 256 := by simpa using hb
          clear hb; obtain ⟨u, hu⟩ : ∃ u, u = x.toNat := ⟨_, rfl⟩; unfold bv at hcell'; rw [← hu] at hcell' hx'; have e1 := u32_xor_nat y u hy (by omega); have hyu : y ^^^ u < 4294967296 := Nat.xor_lt_two_pow (n := 32) hy (by omega); obtain ⟨t, ht⟩ : ∃ t, t = y ^^^ u := ⟨_, rfl⟩; rw [← ht] at e1 hyu; have HU : Hid (t = y ^^^ x.toNat) := by rw [ht, hu]; rfl
          clear ht hu
          go_wp2_with fail
          go_loop [3, 24] (fun v i => ∃ m s : Nat, m ≤ 8 ∧ i = .int .i64 m ∧ v = .int .u32 (s : Int) ∧ s < 4294967296 ∧ Hid (s = Crc.downs Crc.P32 m t)) (fun _ i => 8 - (intOf i).toNat)
          case atStart => exact ⟨0, t, Nat.zero_le _, rfl, rfl, hyu, rfl⟩
          case round =>
            obtain ⟨m, s, hm, rfl, rfl, hs, HS⟩ := hrel
            by_cases hlt8 : m < 8
            · go_wp2_with (go_at_call 41; refine (down_any s Crc.P32 3988292384 (by omega) (by decide) (by decide) _).mono ?_; rintro e w' ⟨rfl, rfl⟩)
              go_round
              case rel => exact ⟨m + 1, _, by omega, by go_num, rfl, Crc.down_lt (k := 31) Crc.p32_hi hs, by rw [HS.out]; exact (downs_succ _ _ _).symm⟩
              case measure => simp [intOf]; omega
            · obtain rfl : m = 8 := by omega
              go_wp2
              go_round
              case rel =>
                refine ⟨j + 1, s, by omega, by go_num, rfl, hs, ?_⟩
                show s = _
                rw [run_take _ _ _ _ _ HX.out, ← HY.out, HS.out, HU.out]; rfl
              case measure => simp [intOf]; omega
        · obtain rfl : j = n' := by omega
          go_wp2
          go_round
          case rel =>
            refine ⟨k + 1, y, by omega, by go_num, rfl, hy, ?_⟩
            show y = _
            rw [flat_take _ _ _ HL.out, Crc.run_append, ← HZ.out, HY.out, List.take_of_length_le (by rw [hr.len]; exact Nat.le_refl _)]
          case measure => simp [intOf]; omega
    · obtain rfl : k = n := by omega
      have He := Lib.hid (not32 z hz)
      go_wp2
      go_ret
      refine ⟨ret_int ?_, rfl⟩; rw [He.out, HZ.out, List.take_of_length_le (by rw [hR.len]; exact Nat.le_refl _)]; rfl
end Go.Proofs.Ytcnlgcmooegfkaa
