/-
  THE STATEMENTS OF STUFFED BYTES: the helper awake, and StuffClean.
-/
import Derived.Test.YtiffbmnenbnglaaStuffWalk
namespace Go.Proofs.Ytiffbmnenbnglaa
open Go.RowKit

set_option maxHeartbeats 1000000 in
/-- awake -/
theorem awake_any (w : World) : Calls Try.prog 12 #[] w fun e w' => e = .returned (.bool true) ∧ Below w.heap.size w w' := by
  have U : ∀ (W : World) A c, Rd W A 3 c [125, 94, 1] → Calls Try.prog 10 #[.slice A 3 c] W fun e w' => ∃ A' c', e = .returned (.tuple #[.slice A' 2 c', .int .i64 0]) ∧ OwnB w' W.heap.size 5 (.slice A' 2 c') [126, 1] ∧ Below W.heap.size W w' := fun W A c h => unstuff_any A 3 c _ W h (by omega)
  have S : ∀ (W : World) A c, Rd W A 1 c [125] → Calls Try.prog 13 #[.slice A 1 c] W fun e w' => ∃ A' c', e = .returned (.slice A' 2 c') ∧ OwnB w' W.heap.size 5 (.slice A' 2 c') [125, 93] ∧ Below W.heap.size W w' := fun W A c h => stuff_any A 1 c _ W h (by omega)
  have HU := Lib.hid U
  have HS := Lib.hid S
  clear U S
  go_enter Try.func12, Try.ntmps12
  go_wp2_with fail
  refine (HU.out _ _ _ (rd_lit w [125, 94, 1] 3 rfl (by omega) _ _)).mono ?_
  rintro e w1 ⟨A1, c1, rfl, ho, hb⟩
  have hc := (ho.rd rfl (by omega)).string (P := Try.prog) 22 9 5 Try.underlying22 Try.underlying5 Try.underlying9
  have hb1 : Below w.heap.size w w1 := ((Below.refl _ _).alloc (Nat.le_refl _) _).trans (hb.mono (by simp))
  go_wp2_with fail
  refine (HS.out _ _ _ (rd_lit w1 [125] 1 rfl (by omega) _ _)).mono ?_
  rintro e w2 ⟨A2, c2, rfl, ho2, hb2⟩
  have hc2 := (ho2.rd rfl (by omega)).string (P := Try.prog) 22 9 5 Try.underlying22 Try.underlying5 Try.underlying9
  go_wp2
  go_ret
  exact ⟨rfl, (hb1.alloc hb1.size _).trans (hb2.mono (by have := hb1.size; simp; omega))⟩

set_option maxHeartbeats 1000000 in
/-- StuffClean -/
theorem clean_law (A : Option Addr) (n c : Nat) (l : List UInt8) (w : World) (hR : Rd w A n c l) (hn : n ≤ 70368744177000) :
    Calls Try.prog 5 #[.slice A n c] w fun e w' => e = .returned (.bool true) ∧ Below w.heap.size w w' := by
  have hs := size_le l
  rw [hR.len] at hs
  have T := stuff_any A n c l w hR hn
  have hcl : (Stf.stuff l).contains 0x7e = false := by
    have := Stf.clean l
    simpa using this
  have hl : (Stf.stuff l).length = Stf.size l := rfl
  have H : ∀ W A c, Rd W A (Stf.size l) c (Stf.stuff l) → Calls Try.prog 14 #[.slice A (Stf.size l) c, .int .u8 126] W fun e w' => e = .returned (.bool false) ∧ W = w' := fun W A c h => by
    have := has_any A _ c _ 0x7e 126 (by decide) W h
    rwa [hcl] at this
  obtain ⟨N, hN⟩ : ∃ N, N = Stf.size l := ⟨_, rfl⟩
  obtain ⟨q, hq⟩ : ∃ q, q = Stf.stuff l := ⟨_, rfl⟩
  rw [← hN] at hs
  simp only [← hN, ← hq] at T H hl
  have HT := Lib.hid T
  have HH := Lib.hid H
  have HL := Lib.hid hl
  obtain ⟨hs1, hs2⟩ := hs
  have i1 : (N : Int) ≤ 2 * (n : Int) := by omega
  have i2 : (n : Int) ≤ (N : Int) := by omega
  clear T H hl hcl hN hq
  go_enter Try.func5, Try.ntmps5
  go_wp2_with fail
  refine HT.out.mono ?_
  rintro e w1 ⟨A1, c1, rfl, ho, hb⟩
  have hr := ho.rd HL.out (by omega)
  go_wp2_with (first
    | (go_at_call 14; refine (HH.out _ _ _ hr).mono ?_; rintro e w' ⟨rfl, rfl⟩)
    | (go_at_call 12; refine (awake_any _).mono ?_; rintro e w' ⟨rfl, hb2⟩))
  go_ret
  exact ⟨rfl, hb.trans (hb2.mono hb.size)⟩
end Go.Proofs.Ytiffbmnenbnglaa
