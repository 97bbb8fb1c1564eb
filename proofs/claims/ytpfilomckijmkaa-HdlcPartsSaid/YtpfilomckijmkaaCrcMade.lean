/-
  THE WALKS OF THE SUMS, MORE: the reference's own, and the functions that make bytes or turn them.
-/
import Derived.Test.YtpfilomckijmkaaMem
import Derived.Test.YtpfilomckijmkaaCrcWalk
import Derived.Deep.RegionHeld3
import Derived.Deep.QuietTactic
import Derived.BigQuiet
namespace Go.Proofs.Ytpfilomckijmkaa
open Go.RowKit

theorem rem2 (z : Nat) : Crc.down 0 z = z / 2 := by
  unfold Crc.down; split <;> simp

set_option maxHeartbeats 1000000 in
/-- portageref02.Take -/
theorem take_any (n p : Nat) (P : Int) (b : UInt8) (hn : n < 4294967296) (hp : p < 4294967296) (hP : P = (p : Int)) (w : World) :
    Calls Try.prog 40 #[.int .u32 (n : Int), bv b, .int .u32 P] w fun e w' => e = .returned (.int .u32 (Crc.step p n b : Int)) ∧ w = w' := by
  subst hP
  have hb := b.toNat_lt
  have hb' : b.toNat < 256 := by simpa using hb
  clear hb
  obtain ⟨x, hx⟩ : ∃ x, x = b.toNat := ⟨_, rfl⟩
  have hx' : x < 256 := by omega
  have e1 := u32_xor_nat n x hn (by omega)
  have hy : n ^^^ x < 4294967296 := Nat.xor_lt_two_pow (n := 32) hn (by omega)
  have hs : Crc.step p n b = Crc.downs p 8 (n ^^^ x) := by rw [hx]; rfl
  unfold bv
  rw [hs, ← hx]
  clear hs hx
  obtain ⟨y, hy2⟩ : ∃ y, y = n ^^^ x := ⟨_, rfl⟩
  rw [← hy2] at hy e1 ⊢
  clear hy2 hb'
  go_enter Try.func40, Try.ntmps40
  go_wp2_with fail
  go_loop [0, 7] (fun v i => ∃ k z : Nat, k ≤ 8 ∧ i = .int .i64 k ∧ v = .int .u32 (z : Int) ∧ z < 4294967296 ∧ Hid (z = Crc.downs p k y)) (fun _ i => 8 - (intOf i).toNat)
  case atStart => exact ⟨0, y, Nat.zero_le _, rfl, rfl, hy, rfl⟩
  case round =>
    obtain ⟨k, z, hk, rfl, rfl, hz, HZ⟩ := hrel
    by_cases hlt : k < 8
    · have e2 := Lib.hid (u32_xor_nat (z / 2) p (by omega) hp)
      have hd : Crc.down p z < 4294967296 := Crc.down_lt (k := 31) hp hz
      by_cases ho : z % 2 = 1
      · have ht : ((z : Int) % 2 == 1) = true := by simp; omega
        have HD : Hid (Crc.down p z = z / 2 ^^^ p) := by show _ = _; rw [Crc.down, if_pos ho]
        have Ho := Lib.hid ho; clear ho
        go_wp2_with fail
        go_round
        case rel => exact ⟨k + 1, Crc.down p z, by omega, by go_num, by rw [HD.out, ← e2.out]; simp, hd, by rw [HZ.out]; exact (downs_succ _ _ _).symm⟩
        case measure => simp [intOf]; omega
      · have ht : ((z : Int) % 2 == 1) = false := by simp; omega
        have HD : Hid (Crc.down p z = z / 2) := by show _ = _; rw [Crc.down, if_neg ho]
        have Ho := Lib.hid ho; clear ho
        go_wp2_with fail
        go_round
        case rel => exact ⟨k + 1, Crc.down p z, by omega, by go_num, by rw [HD.out]; simp, hd, by rw [HZ.out]; exact (downs_succ _ _ _).symm⟩
        case measure => simp [intOf]; omega
    · obtain rfl : k = 8 := by omega
      go_wp2
      go_ret
      exact ⟨ret_int (by rw [HZ.out]), rfl⟩

theorem wrap16 (y : Nat) (h : y < 65536) : IntKind.u16.wrap (y : Int) = y := IntWalk.u16_in _ (by omega)

set_option maxHeartbeats 1000000 in
/-- portageref02.Register -/
theorem register_any (A : Option Addr) (n c : Nat) (l : List UInt8) (w : World) (hR : Rd w A n c l) :
    Calls Try.prog 38 #[.slice A n c] w fun e w' => e = .returned (.int .u16 (Crc.reg16 l : Int)) ∧ w = w' := by
  have hbig := hR.big
  go_enter Try.func38, Try.ntmps38
  go_wp2_with fail
  go_loop [3, 4] (fun v i => ∃ j y : Nat, j ≤ n ∧ i = .int .i64 j ∧ v = .int .u32 (y : Int) ∧ y < 65536 ∧ Hid (y = Crc.run Crc.P16 65535 (l.take j))) (fun _ i => n - (intOf i).toNat)
  case atStart => exact ⟨0, 65535, Nat.zero_le _, rfl, rfl, by omega, rfl⟩
  case round =>
    obtain ⟨j, y, hj, rfl, rfl, hy, HY⟩ := hrel
    by_cases hlt' : j < n
    · obtain ⟨b', off', x, rfl, hb', hx, hcell'⟩ := hR.at' hlt'
      have HX := Lib.hid hx; clear hx
      go_wp2_with (go_at_call 40; refine (take_any y Crc.P16 33800 x (by omega) (by decide) (by decide) _).mono ?_; rintro e w' ⟨rfl, rfl⟩)
      go_round
      case rel => exact ⟨j + 1, _, by omega, by go_num, rfl, Crc.step16_lt _ hy _, by rw [HY.out]; exact (run_take _ _ _ _ _ HX.out).symm⟩
      case measure => simp [intOf]; omega
    · obtain rfl : j = n := by omega
      go_wp2
      go_ret
      refine ⟨ret_int ?_, rfl⟩
      rw [HY.out, List.take_of_length_le (by rw [hR.len]; exact Nat.le_refl _)]
      rfl

/-- portageref02.Fcs -/
theorem rfcs_any (A : Option Addr) (n c : Nat) (l : List UInt8) (w : World) (hR : Rd w A n c l) :
    Calls Try.prog 32 #[.slice A n c] w fun e w' => e = .returned (.int .u16 (Crc.fcs l : Int)) ∧ w = w' := by
  have hlt := Crc.reg16_lt l
  have hf : ((Crc.fcs l : Nat) : Int) = 65535 - (Crc.reg16 l : Int) := by unfold Crc.fcs; omega
  obtain ⟨z, hz⟩ : ∃ z, z = Crc.reg16 l := ⟨_, rfl⟩
  have h1 := register_any A n c l w hR
  rw [hf, ← hz]
  rw [← hz] at h1 hlt
  clear hf hz
  have H1 := Lib.hid h1
  clear h1
  go_enter Try.func32, Try.ntmps32
  go_wp2_with (go_at_call 38; refine H1.out.mono ?_; rintro e w' ⟨rfl, rfl⟩)
  go_ret
  exact ⟨ret_int (by first | rfl | omega), rfl⟩

theorem two_bytes (n : Nat) : ([.int .u8 ((n : Int) % 256), .int .u8 ((n : Int) / 256 % 256)] : List Value) = bs [Crc.lo n, Crc.hi n] := by
  simp [bs, bv, Crc.lo_toNat, Crc.hi_toNat]

set_option maxHeartbeats 400000 in
theorem cadd_any (A : Option Addr) (n c : Nat) (l : List UInt8) (w : World) (hR : Rd w A n c l) (hn : n ≤ 140737488355000) :
    Calls Try.prog 25 #[.slice A n c] w fun e w' => ∃ A' c', e = .returned (.slice A' (n + 2) c') ∧ OwnB w' w.heap.size 5 (.slice A' (n + 2) c') (Crc.added l) ∧ Below w.heap.size w w' := by
  have hbig := hR.big
  have hlen := hR.len
  go_enter Try.func25, Try.ntmps25
  go_wp2_with fail
  refine (fcs_any _ _ _ [l] _ (RdL.single hR _)).mono ?_
  rintro e w' ⟨rfl, rfl⟩
  go_wp2_with (first
    | (at_builtin; refine wpList_app _ rfl elemB (.tmp 7) (.tmp 8) rfl rfl (own_empty _ w.heap.size _ _ 1 (by simp) (by omega)) rfl ((hR.stays ((Stays.alloc w _).trans (Stays.alloc _ _))).src) n (by omega) (by omega) (by simp; omega) ?_; intro A1 c1 w1 hown1 hg1 hat1)
    | (at_builtin; refine wpList_app _ rfl elemB (.tmp 9) (.tmp 15) rfl rfl (hown1.alloc _) rfl (Src.new' w1 _ rfl [_, _] _ 2 1 rfl (by simp [Value.oneCell'])) (n + 2) (by omega) (by omega) (by have := hg1.size; simp at this ⊢; omega) ?_; intro A2 c2 w2 hown2 hg2 hat2))
  go_ret
  have b1 : Below w.heap.size w w1 := below_app' (((Below.refl _ _).alloc (Nat.le_refl _) _).alloc (by simp) _) (own_empty _ w.heap.size _ _ 1 (by simp) (by omega)) hg1 (Nat.le_refl _) (by simp; omega)
  exact ⟨_, _, rfl, OwnB.of hown2 _ (by rw [two_bytes, List.nil_append, ← bs_append]; rfl), below_app' (b1.alloc b1.size _) (hown1.alloc _) hg2 (Nat.le_refl _) (by have := b1.size; simp; omega)⟩
theorem or_bytes (a b : Nat) (ha : a < 256) (hb : b < 256) : bits .or .u16 (a : Int) ((b : Int) * 256) = ((a + 256 * b : Nat) : Int) := by
  have h := u16_or_nat a (256 * b) (by omega) (by omega)
  have h2 := Nat.two_pow_add_eq_or_of_lt (i := 8) (b := a) (by omega) b
  rw [Nat.or_comm] at h2
  rw [show ((b : Int) * 256) = ((256 * b : Nat) : Int) from by omega, h, ← show 2 ^ 8 * b + a = a ||| 256 * b from h2]
  omega

theorem right_eq (init : List UInt8) (x y : UInt8) : ((Crc.fcs init : Int) == bits .or .u16 (IntKind.u16.wrap (x.toNat : Int)) (IntKind.u16.wrap (IntKind.u16.wrap (y.toNat : Int) * 256))) = Crc.right (init ++ [x, y]) := by
  have hx := x.toNat_lt
  have hy := y.toNat_lt
  simp at hx hy
  have hf : Crc.fcs init < 65536 := by unfold Crc.fcs; omega
  rw [IntWalk.u16_in (x.toNat : Int) ⟨by omega, by omega⟩, IntWalk.u16_in (y.toNat : Int) ⟨by omega, by omega⟩, IntWalk.u16_in _ ⟨by omega, by omega⟩, or_bytes _ _ hx hy]
  have e : (init ++ [x, y]).take ((init ++ [x, y]).length - 2) = init := by simp
  rw [Bool.eq_iff_iff]
  unfold Crc.right
  rw [e]
  simp only [Crc.added, beq_iff_eq, Bool.and_eq_true, decide_eq_true_eq, List.append_cancel_left_eq, List.cons.injEq, and_true]
  constructor
  · intro h
    refine ⟨by simp, ?_, ?_⟩
    · apply UInt8.toNat_inj.1; rw [Crc.lo_toNat]; omega
    · apply UInt8.toNat_inj.1; rw [Crc.hi_toNat]; omega
  · rintro ⟨_, h1, h2⟩
    have g1 := congrArg UInt8.toNat h1
    have g2 := congrArg UInt8.toNat h2
    rw [Crc.lo_toNat] at g1
    rw [Crc.hi_toNat] at g2
    omega

set_option maxHeartbeats 400000 in
theorem cright_any (A : Option Addr) (n c : Nat) (l : List UInt8) (w : World) (hR : Rd w A n c l) :
    Calls Try.prog 34 #[.slice A n c] w fun e w' => e = .returned (.bool (Crc.right l)) ∧ Below w.heap.size w w' := by
  have hbig := hR.big
  have hcap := hR.cap
  by_cases h2 : 2 ≤ n
  · obtain ⟨m, rfl⟩ : ∃ m, n = m + 2 := ⟨n - 2, by omega⟩
    obtain ⟨b, off, rfl, hb, hc⟩ := hR.at_ (by omega)
    obtain ⟨init, x, y, rfl, hm⟩ := Crc.split_two l (by rw [hR.len]; omega)
    have hm' : init.length = m := by rw [hm, hR.len]; omega
    have c1 := hc m x (by subst hm'; simp)
    have c2 := hc (m + 1) y (by subst hm'; simp)
    have hT := hR.take (k := m) (by omega)
    have e0 : (init ++ [x, y]).take m = init := by subst hm'; simp
    rw [e0] at hT
    clear hc e0 hm
    have h0 : (0 : Int) ≤ (m : Int) := by omega
    have h1 : (m : Int) < (m : Int) + 2 := by omega
    have h3 : (m : Int) + 1 < (m : Int) + 2 := by omega
    have h4 : (m : Int) ≤ (c : Int) := by omega
    have h5 : (0 : Int) ≤ (m : Int) + 1 := by omega
    have h6 : ((m : Int) + 1).toNat = m + 1 := by omega
    have h7 : IntKind.i64.wrap ((m : Int) + 1) = (m : Int) + 1 := IntWalk.i64_in _ ⟨by omega, by omega⟩
    have hq := Lib.hid hm'; clear hm'
    go_enter Try.func34, Try.ntmps34
    go_wp2_with fail
    go_region_held3 (fun w' => w'.cell? ⟨b, off + m, none⟩ = some (bv x) ∧ w'.cell? ⟨b, off + (m + 1), none⟩ = some (bv y)) (simp [go_sem, World.cell?_alloc_past, *]) ((go_at_call 31; refine (fcs_any _ _ _ [init] _ (RdL.single (hT.stays (Stays.drew _)) _)).mono ?_; rintro e w' ⟨rfl, rfl⟩))
    go_wp2
    go_ret
    refine ⟨?_, ?_⟩
    · exact congrArg (fun b => Ending.returned (.bool b)) (right_eq init x y)
    · repeat (first | exact Below.refl _ _ | apply Below.drew | refine below_drewN ?_ _ | refine Below.alloc ?_ (by first | exact Nat.le_refl _ | (simp; done) | (simp; omega)) _)
  · have hl := hR.len
    have hlt : (n : Int) < 2 := by omega
    have hd : decide ((0 : Int) ≤ (n : Int) - 2) = false := by simp; omega
    have hd2 : decide ((2 : Int) ≤ (n : Int)) = false := by simp; omega
    have hr : Crc.right l = false := by unfold Crc.right; simp; omega
    rw [hr]
    clear hl hr h2
    go_enter Try.func34, Try.ntmps34
    go_wp2_with fail
    go_quiet (fail)
    go_wp2
    go_ret
    exact ⟨rfl, below_drewN (Below.refl _ _) _⟩
end Go.Proofs.Ytpfilomckijmkaa
