/-
  PLAIN LAWS OF MESSAGES' NAMES: an id's four numbers, which may be, which is ahead, its bytes.
-/
import Derived.Test.YtcnlgcmooegfkaaBase
namespace Go.Proofs.Ytcnlgcmooegfkaa
namespace Mg

/-- an id's numbers -/
structure Mid where
  o : Int
  d : Int
  e : Int
  c : Int
deriving DecidableEq
/-- within bounds -/
def In (i : Mid) : Prop := (0 ≤ i.o ∧ i.o ≤ 63) ∧ (0 ≤ i.d ∧ i.d ≤ 63) ∧ (1 ≤ i.e ∧ i.e ≤ 65535) ∧ (1 ≤ i.c ∧ i.c ≤ 65535)
instance (i : Mid) : Decidable (In i) := inferInstanceAs (Decidable (_ ∧ _))
/-- why an id may not be -/
def chk (i : Mid) : Int := if In i then (if i.o = i.d then 2 else 0) else 1
/-- why a message of so many bytes may not be -/
def chkM (i : Mid) (n : Nat) : Int := if chk i = 0 then (if n = 0 then 2 else if 48 < n then 3 else 0) else chk i
/-- which id is ahead -/
def less (a b : Mid) : Bool := if a.o ≠ b.o then decide (a.o < b.o) else if a.d ≠ b.d then decide (a.d < b.d) else if a.e ≠ b.e then decide (a.e < b.e) else decide (a.c < b.c)
theorem less_irrefl (a : Mid) : less a a = false := by simp [less]
theorem less_asymm (a b : Mid) (h : less a b = true) : less b a = false := by
  unfold less at *
  split at h <;> split <;> (try omega) <;> simp_all <;> try omega
  all_goals (split at h <;> split <;> (try omega) <;> simp_all <;> try omega)
  all_goals (split at h <;> split <;> (try omega) <;> simp_all <;> try omega)
end Mg
end Go.Proofs.Ytcnlgcmooegfkaa
