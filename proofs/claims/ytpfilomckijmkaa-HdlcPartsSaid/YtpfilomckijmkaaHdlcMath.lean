/-
  PLAIN LAWS OF A DECODER: what a byte does, what bytes do.
-/
import Derived.Test.YtpfilomckijmkaaStuffMath
import Derived.Test.YtpfilomckijmkaaCrcMath
namespace Go.Proofs.Ytpfilomckijmkaa
namespace Hdl

/-- what a decoder has met: good, bad, short, long, broken -/
structure Met where
  good : Nat
  bad : Nat
  short : Nat
  long : Nat
  broken : Nat
deriving DecidableEq
/-- a decoder -/
structure Dec where
  hunts : Bool
  inn : List UInt8
  met : Met

/-- what gathered bytes are: 0 good, 1 broken, 2 short, 3 bad, 4 long; and the content -/
def kind (p : List UInt8) : Nat × List UInt8 :=
  match Stf.unstuff false p with
  | none => (1, [])
  | some q => if q.length < 3 then (2, []) else if Crc.right q = false then (3, []) else if 128 < q.length - 2 then (4, []) else (0, q.take (q.length - 2))
def count (m : Met) (k : Nat) : Met :=
  if k = 0 then { m with good := m.good + 1 } else if k = 1 then { m with broken := m.broken + 1 } else if k = 2 then { m with short := m.short + 1 } else if k = 3 then { m with bad := m.bad + 1 } else if k = 4 then { m with long := m.long + 1 } else m
/-- a byte comes -/
def step (d : Dec) (b : UInt8) : Dec × List (List UInt8) :=
  if b = 0x7e then
    if d.hunts = true ∨ d.inn = [] then (⟨false, [], d.met⟩, [])
    else (⟨false, [], count d.met (kind d.inn).1⟩, if (kind d.inn).1 = 0 then [(kind d.inn).2] else [])
  else if d.hunts = true then (d, [])
  else if d.inn.length = 260 then (⟨true, [], count d.met 4⟩, [])
  else (⟨false, d.inn ++ [b], d.met⟩, [])
def feed : Dec → List UInt8 → Dec × List (List UInt8)
  | d, [] => (d, [])
  | d, b :: l => ((feed (step d b).1 l).1, (step d b).2 ++ (feed (step d b).1 l).2)
theorem feed_append : ∀ (l m : List UInt8) (d : Dec), feed d (l ++ m) = ((feed (feed d l).1 m).1, (feed d l).2 ++ (feed (feed d l).1 m).2)
  | [], m, d => by simp [feed]
  | b :: l, m, d => by simp [feed, feed_append l m (step d b).1, List.append_assoc]
theorem feed_snoc (l : List UInt8) (b : UInt8) (d : Dec) : feed d (l ++ [b]) = ((step (feed d l).1 b).1, (feed d l).2 ++ (step (feed d l).1 b).2) := by simp [feed_append, feed]
/-- a right decoder: it gathers at most 260 bytes, none of them a flag; nothing while it hunts -/
def Ok (d : Dec) : Prop := d.inn.length ≤ 260 ∧ (0x7e : UInt8) ∉ d.inn ∧ (d.hunts = true → d.inn = [])
theorem ok_step {d : Dec} (h : Ok d) (b : UInt8) : Ok (step d b).1 := by
  obtain ⟨h1, h2, h3⟩ := h
  unfold step
  split
  · split <;> exact ⟨by simp, by simp, by simp⟩
  · rename_i hb
    split
    · exact ⟨h1, h2, h3⟩
    · split
      · exact ⟨by simp, by simp, by simp⟩
      · refine ⟨by simp; omega, ?_, by simp⟩
        simp only [List.mem_append, List.mem_singleton, not_or]
        exact ⟨h2, fun e => hb e.symm⟩
theorem ok_feed : ∀ (l : List UInt8) {d : Dec}, Ok d → Ok (feed d l).1
  | [], _, h => h
  | b :: l, _, h => ok_feed l (ok_step h b)

/-- all counts are at most N -/
def Met.Le (m : Met) (N : Nat) : Prop := m.good ≤ N ∧ m.bad ≤ N ∧ m.short ≤ N ∧ m.long ≤ N ∧ m.broken ≤ N
theorem Met.Le.mono {m : Met} {N M : Nat} (h : m.Le N) (hN : N ≤ M) : m.Le M := by
  obtain ⟨h1, h2, h3, h4, h5⟩ := h
  exact ⟨by omega, by omega, by omega, by omega, by omega⟩
theorem le_count {m : Met} {N : Nat} (h : m.Le N) (k : Nat) : (count m k).Le (N + 1) := by
  obtain ⟨h1, h2, h3, h4, h5⟩ := h
  unfold count
  repeat' split
  all_goals refine ⟨?_, ?_, ?_, ?_, ?_⟩ <;> (try dsimp only) <;> omega
theorem le_step {d : Dec} {N : Nat} (h : d.met.Le N) (b : UInt8) : (step d b).1.met.Le (N + 1) := by
  have h' := h.mono (Nat.le_succ N)
  unfold step
  repeat' split
  all_goals first | exact h' | exact le_count h _
theorem le_feed : ∀ (l : List UInt8) {d : Dec} {N : Nat}, d.met.Le N → (feed d l).1.met.Le (N + l.length)
  | [], _, _, h => h
  | b :: l, _, N, h => by
    have := le_feed l (le_step h b)
    rw [show N + 1 + l.length = N + (b :: l).length from by simp; omega] at this
    exact this
theorem told_step (d : Dec) (b : UInt8) : (step d b).2.length ≤ 1 := by
  unfold step
  repeat' split
  all_goals simp
theorem told_feed : ∀ (l : List UInt8) (d : Dec), (feed d l).2.length ≤ l.length
  | [], _ => by simp [feed]
  | b :: l, d => by
    have h1 := told_step d b
    have h2 := told_feed l (step d b).1
    simp [feed]
    omega
end Hdl
end Go.Proofs.Ytpfilomckijmkaa
