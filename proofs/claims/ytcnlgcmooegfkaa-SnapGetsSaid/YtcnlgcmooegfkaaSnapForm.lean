/-
  EVENTS: the walk of store.form, for an event that holds a message.
-/
import Derived.Test.YtcnlgcmooegfkaaSnapGap
import Derived.Test.YtcnlgcmooegfkaaMsgWalk
namespace Go.Proofs.Ytcnlgcmooegfkaa
open Go.RowKit Mg Sn

/-- an event that holds a message -/
def evv (i : Mid) (D : Value) : Value := .agg #[.int .i64 2, .int .i64 i.o, .int .i64 i.d, .int .i64 i.e, .int .i64 i.c, D]
set_option maxRecDepth 100000 in
set_option maxHeartbeats 4000000 in
theorem form_any (i : Mid) (A : Option Addr) (n c : Nat) (w : World) : Calls Try.prog 78 #[evv i (.slice A n c)] w fun e w' => e = .returned (.int .i64 (chkM i n)) ∧ Below w.heap.size w w' := by
  have HC : Hid (∀ w' : World, Calls Try.prog 39 #[msgv i (.slice A n c)] w' fun e w'' => e = .returned (.int .i64 (chkM i n)) ∧ Below w'.heap.size w' w'') := fun w' => checkm_any i A n c w'
  obtain ⟨o, d, ep, k⟩ := i; unfold evv; unfold msgv at HC; obtain ⟨x, hx⟩ : ∃ x, x = chkM ⟨o, d, ep, k⟩ n := ⟨_, rfl⟩; rw [← hx] at HC ⊢; clear hx
  go_enter Try.func78, Try.ntmps78
  go_wp2_with fail
  refine (HC.out _).mono ?_; rintro e w' ⟨rfl, hb⟩; have HB : Hid (Below w.heap.size w w') := Lib.hid (((Below.refl _ _).alloc (Nat.le_refl _) _).trans (hb.mono (by simp))); clear hb
  go_wp2_with fail
  go_ret
  exact ⟨rfl, HB.out⟩
end Go.Proofs.Ytcnlgcmooegfkaa
