/-
  NUMBERS IN BYTES: bits.Put.
-/
import Derived.Test.YtcnlgcmooegfkaaKit
import Derived.Test.YtcnlgcmooegfkaaCells
import Derived.WalkMore
import Derived.LoopN
namespace Go.Proofs.Ytcnlgcmooegfkaa
open Go.RowKit

/-- a number's bytes, the greatest first -/
def beB (n k : Nat) : UInt8 := UInt8.ofNat (n / 2 ^ (8 * k) % 256)
def be (n : Nat) : Nat → List UInt8
  | 0 => []
  | k + 1 => beB n k :: be n k
theorem be_len (n : Nat) : ∀ k, (be n k).length = k
  | 0 => rfl
  | k + 1 => by simp [be, be_len n k]

set_option maxHeartbeats 2000000 in
theorem bput2 (A : Option Addr) (m c : Nat) (l : List UInt8) (n : Nat) (w : World) (hR : Rd w A m c l) (hm : m ≤ 1000000000000) (hn : n < 65536) :
    Calls Try.prog 23 #[.slice A m c, .int .u64 n, .int .i64 2] w fun e w' => ∃ A' c', e = .returned (.tuple #[.slice A' (m + 2) c', .int .i64 0]) ∧ OwnB w' w.heap.size 5 (.slice A' (m + 2) c') (l ++ be n 2) ∧ Below w.heap.size w w' := by
  have HR := Lib.hid hR; clear hR; have b0 : (0 : Int) ≤ (n : Int) := by omega
  have b1 : (n : Int) ≤ 65535 := by omega
  have b2 : (n : Int) / 65536 = 0 := by omega
  go_enter Try.func23, Try.ntmps23
  go_wp2_with fail
  go_step3
  go_wp2_with ((with_reducible show wpList _ _ _ (⟨some 27, _, _, _, _, _⟩ :: _) _ _); refine wpList_app _ rfl elemB (.tmp 25) (.tmp 26) rfl rfl (own_empty _ w.heap.size _ _ 1 (by simp) (by omega)) rfl ((HR.out.stays (Stays.alloc w _)).src) m (by omega) (by omega) (by simp) ?_; intro A1 c1 w2 hown1 hg1 hat1)
  have hb2 := below_app' ((Below.refl w.heap.size w).alloc (Nat.le_refl _) _) (own_empty _ w.heap.size _ _ 1 (by simp) (by omega)) hg1 (Nat.le_refl _) (by simp); have HO := Lib.hid hown1; have HB := Lib.hid hb2; clear hown1 hg1 hat1 hb2
  go_step3
  go_wp2
  refine wp_loop_rounds 2 ?_; rw [rounds_succ]
  go_wp2_with ((with_reducible show wpList _ _ _ (⟨some 38, _, _, _, _, _⟩ :: _) _ _); refine wpList_app _ rfl elemB (.tmp 32) (.tmp 37) rfl rfl (HO.out.alloc _) rfl (Src.new' w2 _ rfl [_] _ 1 1 rfl (by simp [Value.oneCell'])) (m + 1) rfl (by omega) (by have := HB.out.size; simp; omega) ?_; intro A3 c3 w3 hown3 hg3 hat3; have HB3 := Lib.hid (below_app' (HB.out.alloc HB.out.size _) (HO.out.alloc _) hg3 (Nat.le_refl _) (by have := HB.out.size; simp; omega)); have HO3 := Lib.hid hown3; clear hown3 hg3 hat3)
  rw [rounds_succ]
  go_wp2_with ((with_reducible show wpList _ _ _ (⟨some 38, _, _, _, _, _⟩ :: _) _ _); refine wpList_app _ rfl elemB (.tmp 32) (.tmp 37) rfl rfl (HO3.out.alloc _) rfl (Src.new' w3 _ rfl [_] _ 1 1 rfl (by simp [Value.oneCell'])) (m + 2) rfl (by omega) (by have := HB3.out.size; simp; omega) ?_; intro A4 c4 w4 hown4 hg4 hat4; have HB4 := Lib.hid (below_app' (HB3.out.alloc HB3.out.size _) (HO3.out.alloc _) hg4 (Nat.le_refl _) (by have := HB3.out.size; simp; omega)); have HO4 := Lib.hid hown4; clear hown4 hg4 hat4)
  rw [Exit.noGoto_ret]
  go_ret2
  have e2 : bs (l ++ be n 2) = [] ++ bs l ++ [Value.int .u8 ((n : Int) / 256)] ++ [Value.int .u8 ((n : Int) % 256)] := by
    rw [bs_append]; simp [be, beB, bs, bv]; omega
  exact ⟨A4, c4, rfl, OwnB.of (by simpa using HO4.out) _ e2.symm, HB4.out⟩
end Go.Proofs.Ytcnlgcmooegfkaa
