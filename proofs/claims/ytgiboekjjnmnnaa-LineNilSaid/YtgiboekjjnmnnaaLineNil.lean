/-
  LineNil.
-/
import Derived.Test.YtgiboekjjnmnnaaLineLaws
namespace Go.Proofs.Ytgiboekjjnmnnaa
open Go.RowKit

set_option maxHeartbeats 2000000 in
set_option maxRecDepth 100000 in
/-- LineNil -/
theorem nil_law (i0 i1 i2 : Int) (A : Option Addr) (n c : Nat) (w : World) :
    Calls Try.prog 6 #[.agg #[.int .i64 i0, .int .i64 i1, .int .i64 i2, .slice A n c]] w fun e w' => e = .returned (.bool true) ∧ Below w.heap.size w w' := by
  go_enter Try.func6, Try.ntmps6
  go_wp2_with (first
    | (go_at_call 9; refine (nil_put _ _).mono ?_; rintro e w' ⟨rfl, rfl⟩)
    | (go_at_call 12; refine (nil_tick _).mono ?_; rintro e w' ⟨rfl, rfl⟩)
    | (go_at_call 11; refine (nil_take _).mono ?_; rintro e w' ⟨rfl, rfl⟩)
    | (go_at_call 18; refine (nil_drop _ _ _).mono ?_; rintro e w' ⟨rfl, rfl⟩)
    | (go_at_call 19; refine (nil_flip _ _ _).mono ?_; rintro e w' ⟨rfl, rfl⟩)
    | (go_at_call 17; refine (nil_insert _ _ _).mono ?_; rintro e w' ⟨rfl, rfl⟩)
    | (go_at_call 15; refine (nil_bytes _).mono ?_; rintro e w' ⟨rfl, rfl⟩)
    | (go_at_call 10; refine (nil_len _).mono ?_; rintro e w' ⟨rfl, rfl⟩)
    | (go_at_call 8; refine (awake_any _).mono ?_; rintro e w' ⟨rfl, hb2⟩))
  go_ret
  exact ⟨rfl, ((Below.refl _ _).alloc (Nat.le_refl _) _).trans (hb2.mono (by simp))⟩
end Go.Proofs.Ytgiboekjjnmnnaa
