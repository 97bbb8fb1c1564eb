/-
  NUMBERS IN BYTES: bits.Get, of up to four bytes.
-/
import Derived.Test.YtcnlgcmooegfkaaMsgGets
import Derived.IntWalk
namespace Go.Proofs.Ytcnlgcmooegfkaa
open Go.RowKit

/-- the number that bytes are -/
def nval (l : List UInt8) : Nat := l.foldl (fun v b => v * 256 + b.toNat) 0
theorem nval_snoc (l : List UInt8) (b : UInt8) : nval (l ++ [b]) = nval l * 256 + b.toNat := by simp [nval]
theorem nval_lt (l : List UInt8) : nval l < 256 ^ l.length := by
  rw [← List.reverse_reverse l]
  generalize l.reverse = r
  induction r with
  | nil => simp [nval]
  | cons x r ih =>
    rw [List.reverse_cons, nval_snoc, List.length_append, List.length_singleton, Nat.pow_succ]; have := x.toNat_lt; omega

set_option maxRecDepth 100000 in
set_option maxHeartbeats 2000000 in
theorem bget_no (A : Option Addr) (n c : Nat) (at_ size : Nat) (w : World) (hn : n ≤ 281474976710656) (ha : n < at_ + size) (hs : 1 ≤ size) (hs4 : size ≤ 4) (hat : at_ ≤ 600000000000000) :
    Calls Try.prog 32 #[.slice A n c, .int .i64 at_, .int .i64 size] w fun e w' => e = .returned (.tuple #[.int .u64 0, .int .i64 2]) ∧ Below w.heap.size w w' := by
  have b0 : (0 : Int) ≤ (at_ : Int) := by omega
  have b1 : (1 : Int) ≤ (size : Int) := by omega
  have b2 : (size : Int) ≤ 8 := by omega
  have hsub : IntKind.i64.wrap ((n : Int) - (at_ : Int)) = (n : Int) - (at_ : Int) := IntWalk.i64_in _ (by omega)
  by_cases h : n < at_
  · have d1 : decide ((n : Int) < (at_ : Int)) = true := by simp; omega
    go_enter Try.func32, Try.ntmps32
    go_wp2_with fail
    go_ret2
    exact ⟨rfl, Below.refl _ _⟩
  · have d1 : decide ((n : Int) < (at_ : Int)) = false := by simp; omega
    have d2 : decide ((n : Int) - (at_ : Int) < (size : Int)) = true := by simp; omega
    go_enter Try.func32, Try.ntmps32
    go_wp2_with fail
    go_ret2
    exact ⟨rfl, Below.refl _ _⟩
set_option maxRecDepth 100000 in
set_option maxHeartbeats 2000000 in
theorem bget_ok (A : Option Addr) (n c : Nat) (l : List UInt8) (at_ size : Nat) (w : World) (hR : Rd w A n c l) (hn : n ≤ 281474976710656) (ha : at_ + size ≤ n) (hs : 1 ≤ size) (hs4 : size ≤ 4) :
    Calls Try.prog 32 #[.slice A n c, .int .i64 at_, .int .i64 size] w fun e w' => e = .returned (.tuple #[.int .u64 (nval ((l.drop at_).take size)), .int .i64 0]) ∧ Below w.heap.size w w' := by
  obtain ⟨b, off, rfl, hb, hc⟩ := hR.at_ (by omega); have hl := hR.len; have hcap := hR.cap; have HC := Lib.hid hc; have HL := Lib.hid hl; clear hR hc hl; have b0 : (0 : Int) ≤ (at_ : Int) := by omega
  have b1 : (1 : Int) ≤ (size : Int) := by omega
  have b2 : (size : Int) ≤ 8 := by omega
  have b3 : (at_ : Int) ≤ (n : Int) := by omega
  have hsub : IntKind.i64.wrap ((n : Int) - (at_ : Int)) = (n : Int) - (at_ : Int) := IntWalk.i64_in _ (by omega); have hadd : IntKind.i64.wrap ((at_ : Int) + (size : Int)) = ((at_ + size : Nat) : Int) := by rw [IntWalk.i64_in _ (by omega)]; omega
  have d1 : decide ((n : Int) < (at_ : Int)) = false := by simp; omega
  have d2 : decide ((n : Int) - (at_ : Int) < (size : Int)) = false := by simp; omega
  have hnc : at_ + size ≤ c := by omega
  have hss : at_ + size - at_ = size := by omega
  go_enter Try.func32, Try.ntmps32
  go_wp2_with fail
  go_loopw [40, 8] (fun i v wr => ∃ k : Nat, i = .int .i64 k ∧ k ≤ size ∧ v = .int .u64 (nval ((l.drop at_).take k)) ∧ Hid (Below w.heap.size w wr)) (fun i _ _ => size - (intOf i).toNat)
  case atStart => exact ⟨0, rfl, Nat.zero_le _, by simp [nval], Below.refl _ _⟩
  case round =>
    obtain ⟨k, rfl, hk, rfl, hb2⟩ := hrel; have HB := Lib.hid hb2.out; clear hb2; have hv := nval_lt ((l.drop at_).take k); have hvl : ((l.drop at_).take k).length = k := by
      rw [List.length_take, List.length_drop]; have := HL.out; omega
    rw [hvl] at hv
    by_cases hlt : k < size
    · obtain ⟨x, hx⟩ : ∃ x, l[at_ + k]? = some x := ⟨_, List.getElem?_eq_getElem (by have := HL.out; omega)⟩; have c0 := (HB.out.cell (p := ⟨b, off + (at_ + k), none⟩) hb).trans (HC.out (at_ + k) x hx); unfold bv at c0; have htk : (l.drop at_).take (k + 1) = (l.drop at_).take k ++ [x] := by
        rw [List.take_add_one, List.getElem?_drop, hx]; rfl
      have HTK := Lib.hid htk; have hv2 : 256 ^ k ≤ 256 ^ 3 := Nat.pow_le_pow_right (by omega) (by omega); obtain ⟨V, hV⟩ : ∃ V, V = nval ((l.drop at_).take k) := ⟨_, rfl⟩; rw [← hV] at hv ⊢; have hx8 := x.toNat_lt; obtain ⟨y, hy⟩ : ∃ z : Nat, z = x.toNat := ⟨_, rfl⟩; rw [← hy] at c0 hx8; have HV := Lib.hid hV; have HY := Lib.hid hy; have hV3 : V < 16777216 := by omega
      have hor1 : bits .or .u64 ((V : Int) * 256) (y : Int) = (V : Int) * 256 + (y : Int) := by
        have := bits_or_u64_nat (V * 256) y (by omega) (by omega); rw [show V * 256 ||| y = V * 256 + y by rw [show (256 : Nat) = 2 ^ 8 from rfl, ← Nat.shiftLeft_eq, Nat.shiftLeft_add_eq_or_of_lt (by omega)]] at this
        simpa using this
      rw [← Nat.add_assoc] at c0; clear htk hV hy hv hv2 hvl hx
      go_wp2_with fail
      refine ⟨⟨k + 1, by simp, by omega, ?_, HB.out⟩, by simp only [intOf]; omega⟩; rw [HTK.out, nval_snoc, ← HV.out, ← HY.out]; have e9 : ((V * 256 + y : Nat) : Int) = (V : Int) * 256 + (y : Int) := by omega
      rw [e9]
    · have hks : k = size := by omega
      subst hks
      go_wp2_with fail
      go_ret2
      exact ⟨rfl, HB.out⟩
end Go.Proofs.Ytcnlgcmooegfkaa
