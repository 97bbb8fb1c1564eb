/-
  WHICH MESSAGES ARE THE SAME.
-/
import Derived.Test.YtcnlgcmooegfkaaMsgWalk
import Derived.Test.YtcnlgcmooegfkaaCopy
namespace Go.Proofs.Ytcnlgcmooegfkaa
open Go.RowKit Mg
set_option maxRecDepth 100000 in
set_option maxHeartbeats 2000000 in
theorem rsame_eq (a : Mid) (A B : Option Addr) (n m c k : Nat) (la lb : List UInt8) (w : World) (hA : Rd w A n c la) (hB : Rd w B m k lb) : Calls Try.prog 56 #[msgv a (.slice A n c), msgv a (.slice B m k)] w fun e w' => e = .returned (.bool (la == lb)) ∧ Below w.heap.size w w' := by
  have hb : Below w.heap.size w ((w.alloc (.cells #[.int .i64 a.o, .int .i64 a.d, .int .i64 a.e, .int .i64 a.c, .slice A n c] 54)).alloc (.cells #[.int .i64 a.o, .int .i64 a.d, .int .i64 a.e, .int .i64 a.c, .slice B m k] 54)) := ((Below.refl _ _).alloc (Nat.le_refl _) _).alloc (by simp) _; have kc1 := (hA.below hb).string (P := Try.prog) 28 9 5 Try.underlying28 Try.underlying5 Try.underlying9; have kc2 := (hB.below hb).string (P := Try.prog) 28 9 5 Try.underlying28 Try.underlying5 Try.underlying9; obtain ⟨ao, ad, ae, ac⟩ := a; simp only at kc1 kc2 hb; have HB := Lib.hid hb; clear hA hB hb; unfold msgv
  go_enter Try.func56, Try.ntmps56
  go_wp2
  all_goals
    go_ret
    exact ⟨rfl, HB.out⟩
set_option maxRecDepth 100000 in
set_option maxHeartbeats 2000000 in
theorem rsame_ne (a b : Mid) (hne : a ≠ b) (A B : Option Addr) (n m c k : Nat) (w : World) : Calls Try.prog 56 #[msgv a (.slice A n c), msgv b (.slice B m k)] w fun e w' => e = .returned (.bool false) ∧ Below w.heap.size w w' := by
  obtain ⟨ao, ad, ae, ac⟩ := a; obtain ⟨bo, bd, be, bc⟩ := b; have hne' : ¬ (ao = bo ∧ ad = bd ∧ ae = be ∧ ac = bc) := fun ⟨h1, h2, h3, h4⟩ => hne (by rw [h1, h2, h3, h4])
  have HNE := Lib.hid hne'; clear hne hne'; unfold msgv
  go_enter Try.func56, Try.ntmps56
  go_wp2
  all_goals first
    | exact absurd ⟨rfl, rfl, rfl, rfl⟩ HNE.out
    | exact absurd ⟨by assumption, by assumption, by assumption, by assumption⟩ HNE.out
    | (go_ret; exact ⟨rfl, ((Below.refl _ _).alloc (Nat.le_refl _) _).alloc (by simp) _⟩)
theorem rsame_any (a b : Mid) (A B : Option Addr) (n m c k : Nat) (la lb : List UInt8) (w : World) (hA : Rd w A n c la) (hB : Rd w B m k lb) : Calls Try.prog 56 #[msgv a (.slice A n c), msgv b (.slice B m k)] w fun e w' => e = .returned (.bool (decide (a = b) && (la == lb))) ∧ Below w.heap.size w w' := by
  by_cases h : a = b
  · subst h; have e1 : (decide (a = a) && (la == lb)) = (la == lb) := by simp
    rw [e1]; exact rsame_eq a A B n m c k la lb w hA hB
  · have e1 : (decide (a = b) && (la == lb)) = false := by simp [h]
    rw [e1]; exact rsame_ne a b h A B n m c k w
end Go.Proofs.Ytcnlgcmooegfkaa
