/-
  THE WALKS OF THE SUMS, MORE: the reference's own, and the functions that make bytes or turn them.
-/
import Derived.Test.YtcnlgcmooegfkaaMem
import Derived.Test.YtcnlgcmooegfkaaCrcWalk
import Derived.Deep.RegionHeld3
import Derived.Deep.QuietTactic
import Derived.BigQuiet
namespace Go.Proofs.Ytcnlgcmooegfkaa
open Go.RowKit

theorem rem2 (z : Nat) : Crc.down 0 z = z / 2 := by
  unfold Crc.down; split <;> simp

set_option maxHeartbeats 1000000 in
/-- portageref02.Take -/
theorem take_any (n p : Nat) (P : Int) (b : UInt8) (hn : n < 4294967296) (hp : p < 4294967296) (hP : P = (p : Int)) (w : World) :
    Calls Try.prog 46 #[.int .u32 (n : Int), bv b, .int .u32 P] w fun e w' => e = .returned (.int .u32 (Crc.step p n b : Int)) ∧ w = w' := by
  subst hP; have hb := b.toNat_lt; have hb' : b.toNat < 256 := by simpa using hb
  clear hb; obtain ⟨x, hx⟩ : ∃ x, x = b.toNat := ⟨_, rfl⟩; have hx' : x < 256 := by omega
  have e1 := u32_xor_nat n x hn (by omega); have hy : n ^^^ x < 4294967296 := Nat.xor_lt_two_pow (n := 32) hn (by omega); have hs : Crc.step p n b = Crc.downs p 8 (n ^^^ x) := by rw [hx]; rfl
  unfold bv; rw [hs, ← hx]; clear hs hx; obtain ⟨y, hy2⟩ : ∃ y, y = n ^^^ x := ⟨_, rfl⟩; rw [← hy2] at hy e1 ⊢; clear hy2 hb'
  go_enter Try.func46, Try.ntmps46
  go_wp2_with fail
  go_loop [0, 7] (fun v i => ∃ k z : Nat, k ≤ 8 ∧ i = .int .i64 k ∧ v = .int .u32 (z : Int) ∧ z < 4294967296 ∧ Hid (z = Crc.downs p k y)) (fun _ i => 8 - (intOf i).toNat)
  case atStart => exact ⟨0, y, Nat.zero_le _, rfl, rfl, hy, rfl⟩
  case round =>
    obtain ⟨k, z, hk, rfl, rfl, hz, HZ⟩ := hrel
    by_cases hlt : k < 8
    · have e2 := Lib.hid (u32_xor_nat (z / 2) p (by omega) hp); have hd : Crc.down p z < 4294967296 := Crc.down_lt (k := 31) hp hz
      by_cases ho : z % 2 = 1
      · have ht : ((z : Int) % 2 == 1) = true := by simp; omega
        have HD : Hid (Crc.down p z = z / 2 ^^^ p) := by show _ = _; rw [Crc.down, if_pos ho]
        have Ho := Lib.hid ho; clear ho
        go_wp2_with fail
        go_round
        case rel => exact ⟨k + 1, Crc.down p z, by omega, by go_num, by rw [HD.out, ← e2.out]; simp, hd, by rw [HZ.out]; exact (downs_succ _ _ _).symm⟩
        case measure => simp [intOf]; omega
      · have ht : ((z : Int) % 2 == 1) = false := by simp; omega
        have HD : Hid (Crc.down p z = z / 2) := by show _ = _; rw [Crc.down, if_neg ho]
        have Ho := Lib.hid ho; clear ho
        go_wp2_with fail
        go_round
        case rel => exact ⟨k + 1, Crc.down p z, by omega, by go_num, by rw [HD.out]; simp, hd, by rw [HZ.out]; exact (downs_succ _ _ _).symm⟩
        case measure => simp [intOf]; omega
    · obtain rfl : k = 8 := by omega
      go_wp2
      go_ret
      exact ⟨ret_int (by rw [HZ.out]), rfl⟩

theorem wrap16 (y : Nat) (h : y < 65536) : IntKind.u16.wrap (y : Int) = y := IntWalk.u16_in _ (by omega)

set_option maxHeartbeats 1000000 in
/-- portageref02.Sum -/
theorem rsum_any (A : Option Addr) (n c : Nat) (l : List UInt8) (w : World) (hR : Rd w A n c l) :
    Calls Try.prog 27 #[.slice A n c] w fun e w' => e = .returned (.int .u32 (Crc.sum l : Int)) ∧ w = w' := by
  have hbig := hR.big
  go_enter Try.func27, Try.ntmps27
  go_wp2_with fail
  go_loop [3, 4] (fun v i => ∃ j y : Nat, j ≤ n ∧ i = .int .i64 j ∧ v = .int .u32 (y : Int) ∧ y < 4294967296 ∧ Hid (y = Crc.run Crc.P32 4294967295 (l.take j))) (fun _ i => n - (intOf i).toNat)
  case atStart => exact ⟨0, 4294967295, Nat.zero_le _, rfl, rfl, by omega, rfl⟩
  case round =>
    obtain ⟨j, y, hj, rfl, rfl, hy, HY⟩ := hrel
    by_cases hlt' : j < n
    · obtain ⟨b', off', x, rfl, hb', hx, hcell'⟩ := hR.at' hlt'; have HX := Lib.hid hx; clear hx
      go_wp2_with (go_at_call 46; refine (take_any y Crc.P32 3988292384 x (by omega) (by decide) (by decide) _).mono ?_; rintro e w' ⟨rfl, rfl⟩)
      go_round
      case rel => exact ⟨j + 1, _, by omega, by go_num, rfl, Crc.step32_lt _ hy _, by rw [HY.out]; exact (run_take _ _ _ _ _ HX.out).symm⟩
      case measure => simp [intOf]; omega
    · obtain rfl : j = n := by omega
      have HS : Hid ((Crc.sum l : Int) = 4294967295 - (y : Int)) := by
        show _ = _
        have e : Crc.reg32 l = y := by
          rw [HY.out, List.take_of_length_le (by rw [hR.len]; exact Nat.le_refl _)]; rfl
        unfold Crc.sum; rw [e]; omega
      go_wp2
      go_ret
      exact ⟨ret_int (by rw [HS.out]), rfl⟩

theorem two_bytes (n : Nat) : ([.int .u8 ((n : Int) % 256), .int .u8 ((n : Int) / 256 % 256)] : List Value) = bs [Crc.lo n, Crc.hi n] := by
  simp [bs, bv, Crc.lo_toNat, Crc.hi_toNat]

theorem or_bytes (a b : Nat) (ha : a < 256) (hb : b < 256) : bits .or .u16 (a : Int) ((b : Int) * 256) = ((a + 256 * b : Nat) : Int) := by
  have h := u16_or_nat a (256 * b) (by omega) (by omega); have h2 := Nat.two_pow_add_eq_or_of_lt (i := 8) (b := a) (by omega) b; rw [Nat.or_comm] at h2; rw [show ((b : Int) * 256) = ((256 * b : Nat) : Int) from by omega, h, ← show 2 ^ 8 * b + a = a ||| 256 * b from h2]; omega

theorem right_eq (init : List UInt8) (x y : UInt8) : ((Crc.fcs init : Int) == bits .or .u16 (IntKind.u16.wrap (x.toNat : Int)) (IntKind.u16.wrap (IntKind.u16.wrap (y.toNat : Int) * 256))) = Crc.right (init ++ [x, y]) := by
  have hx := x.toNat_lt; have hy := y.toNat_lt; simp at hx hy; have hf : Crc.fcs init < 65536 := by unfold Crc.fcs; omega
  rw [IntWalk.u16_in (x.toNat : Int) ⟨by omega, by omega⟩, IntWalk.u16_in (y.toNat : Int) ⟨by omega, by omega⟩, IntWalk.u16_in _ ⟨by omega, by omega⟩, or_bytes _ _ hx hy]; have e : (init ++ [x, y]).take ((init ++ [x, y]).length - 2) = init := by simp
  rw [Bool.eq_iff_iff]; unfold Crc.right; rw [e]; simp only [Crc.added, beq_iff_eq, Bool.and_eq_true, decide_eq_true_eq, List.append_cancel_left_eq, List.cons.injEq, and_true]
  constructor
  · intro h; refine ⟨by simp, ?_, ?_⟩
    · apply UInt8.toNat_inj.1; rw [Crc.lo_toNat]; omega
    · apply UInt8.toNat_inj.1; rw [Crc.hi_toNat]; omega
  · rintro ⟨_, h1, h2⟩; have g1 := congrArg UInt8.toNat h1; have g2 := congrArg UInt8.toNat h2; rw [Crc.lo_toNat] at g1; rw [Crc.hi_toNat] at g2; omega

end Go.Proofs.Ytcnlgcmooegfkaa
