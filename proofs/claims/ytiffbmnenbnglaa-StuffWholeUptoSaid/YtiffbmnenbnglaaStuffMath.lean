/-
  PLAIN LAWS OF STUFFED BYTES (no program in sight): what is stuffed is got back, no flag stands in it, what can be got back is what would be stuffed; parts between flags.
-/
import Derived.WalkKit
namespace Go.Proofs.Ytiffbmnenbnglaa.Stf

/-- a byte, stuffed -/
def one (b : UInt8) : List UInt8 := if b = 0x7e ∨ b = 0x7d then [0x7d, b ^^^ 0x20] else [b]
/-- bytes, stuffed -/
def stuff (l : List UInt8) : List UInt8 := l.flatMap one
/-- how many the stuffed ones are -/
def size (l : List UInt8) : Nat := (stuff l).length
/-- the bytes of stuffed ones; 'turned': an escape has come -/
def unstuff : Bool → List UInt8 → Option (List UInt8)
  | false, [] => some []
  | true, [] => none
  | true, b :: l => if b = 0x5e ∨ b = 0x5d then (unstuff false l).map (fun m => (b ^^^ 0x20) :: m) else none
  | false, b :: l => if b = 0x7e then none else if b = 0x7d then unstuff true l else (unstuff false l).map (fun m => b :: m)

theorem stuff_nil : stuff [] = [] := rfl
theorem stuff_append (a b : List UInt8) : stuff (a ++ b) = stuff a ++ stuff b := by simp [stuff]
theorem stuff_snoc (a : List UInt8) (b : UInt8) : stuff (a ++ [b]) = stuff a ++ one b := by simp [stuff]
theorem stuff_cons (b : UInt8) (l : List UInt8) : stuff (b :: l) = one b ++ stuff l := by simp [stuff]
theorem one_len (b : UInt8) : 1 ≤ (one b).length ∧ (one b).length ≤ 2 := by unfold one; split <;> simp
theorem size_bounds : ∀ l : List UInt8, l.length ≤ (stuff l).length ∧ (stuff l).length ≤ 2 * l.length
  | [] => by simp [stuff]
  | b :: l => by
    have := size_bounds l
    have := one_len b
    rw [stuff_cons]
    simp
    omega

theorem unstuff_one (b : UInt8) (l : List UInt8) : unstuff false (one b ++ l) = (unstuff false l).map (fun m => b :: m) := by
  unfold one
  by_cases h : b = 0x7e ∨ b = 0x7d
  · rw [if_pos h]
    have e1 : (126 ^^^ 32 : UInt8) = 94 := by decide
    have e2 : (125 ^^^ 32 : UInt8) = 93 := by decide
    have e3 : (94 ^^^ 32 : UInt8) = 126 := by decide
    have e4 : (93 ^^^ 32 : UInt8) = 125 := by decide
    rcases h with rfl | rfl <;> simp [unstuff, e1, e2, e3, e4]
  · rw [if_neg h]
    have h1 : ¬ b = 0x7e := fun e => h (.inl e)
    have h2 : ¬ b = 0x7d := fun e => h (.inr e)
    simp [unstuff, h1, h2]

/-- what was stuffed is got back -/
theorem back : ∀ l : List UInt8, unstuff false (stuff l) = some l
  | [] => rfl
  | b :: l => by rw [stuff_cons, unstuff_one, back l]; rfl

theorem there_aux : ∀ (n : Nat) (q : List UInt8), q.length ≤ n → ∀ l, unstuff false q = some l → stuff l = q
  | _, [], _, l, h => by simp [unstuff] at h; subst h; rfl
  | 0, _ :: _, h, _, _ => by simp at h
  | n + 1, b :: q, hn, l, h => by
    simp only [unstuff] at h
    by_cases h1 : b = 0x7e
    · simp [h1] at h
    by_cases h2 : b = 0x7d
    · rw [if_neg h1, if_pos h2] at h
      subst h2
      cases q with
      | nil => simp [unstuff] at h
      | cons c q =>
        simp only [unstuff] at h
        by_cases h3 : c = 0x5e ∨ c = 0x5d
        · rw [if_pos h3] at h
          obtain ⟨m, hm, rfl⟩ := Option.map_eq_some_iff.1 h
          have ih := there_aux n q (by simp at hn; omega) m hm
          rw [stuff_cons, ih]
          have e3 : (94 ^^^ 32 : UInt8) = 126 := by decide
          have e4 : (93 ^^^ 32 : UInt8) = 125 := by decide
          have e1 : (126 ^^^ 32 : UInt8) = 94 := by decide
          have e2 : (125 ^^^ 32 : UInt8) = 93 := by decide
          rcases h3 with rfl | rfl <;> simp [one, e1, e2, e3, e4]
        · simp [h3] at h
    · rw [if_neg h1, if_neg h2] at h
      obtain ⟨m, hm, rfl⟩ := Option.map_eq_some_iff.1 h
      have ih := there_aux n q (by simp at hn; omega) m hm
      rw [stuff_cons, ih]
      simp [one, h1, h2]
/-- what can be got back is what would be stuffed -/
theorem there (q l : List UInt8) (h : unstuff false q = some l) : stuff l = q := there_aux q.length q (Nat.le_refl _) l h

theorem one_clean (b : UInt8) : (0x7e : UInt8) ∉ one b := by
  unfold one
  split
  · rename_i h
    rcases h with rfl | rfl <;> decide
  · rename_i h
    simp only [List.mem_singleton]
    exact fun e => h (.inl e.symm)
/-- no flag stands in stuffed bytes -/
theorem clean (l : List UInt8) : (0x7e : UInt8) ∉ stuff l := by
  intro h
  obtain ⟨b, _, hb⟩ := List.mem_flatMap.1 h
  exact one_clean b hb

/-! ### what Unstuff hands back -/
/-- the bytes (none where they are no stuffed ones), their number, the error -/
def bytesOf (l : List UInt8) : List UInt8 := (unstuff false l).getD []
def lenOf (l : List UInt8) : Nat := (bytesOf l).length
def errOf (l : List UInt8) : Int := if (unstuff false l).isSome then 0 else 2
theorem errOf_zero (l : List UInt8) : errOf l = 0 ↔ unstuff false l = some (bytesOf l) := by
  unfold errOf bytesOf
  cases unstuff false l <;> simp
theorem of_none {l : List UInt8} (h : unstuff false l = none) : bytesOf l = [] ∧ errOf l = 2 ∧ lenOf l = 0 := by simp [bytesOf, errOf, lenOf, h]
theorem of_some {l m : List UInt8} (h : unstuff false l = some m) : bytesOf l = m ∧ errOf l = 0 ∧ lenOf l = m.length := by simp [bytesOf, errOf, lenOf, h]
theorem of_stuff (l : List UInt8) : bytesOf (stuff l) = l ∧ errOf (stuff l) = 0 ∧ lenOf (stuff l) = l.length := of_some (back l)
theorem drop_at {l : List UInt8} {k : Nat} {x : UInt8} (h : l[k]? = some x) : l.drop k = x :: l.drop (k + 1) := by
  obtain ⟨hk, rfl⟩ := List.getElem?_eq_some_iff.1 h
  rw [List.drop_eq_getElem_cons hk]
/-- after k bytes: 'out' has come, 'turned' tells whether an escape stands -/
def At (l : List UInt8) (k : Nat) (turned : Bool) (out : List UInt8) : Prop := unstuff false l = (unstuff turned (l.drop k)).map (fun m => out ++ m)
theorem At.start (l : List UInt8) : At l 0 false [] := by
  unfold At
  simp
theorem At.flag {l : List UInt8} {k : Nat} {t : Bool} {out : List UInt8} (h : At l k t out) (hx : l[k]? = some 0x7e) : unstuff false l = none := by
  unfold At at h
  rw [h, drop_at hx]
  cases t <;> simp [unstuff]
theorem At.bad {l : List UInt8} {k : Nat} {out : List UInt8} (h : At l k true out) {x : UInt8} (hx : l[k]? = some x) (h1 : x ≠ 0x5e) (h2 : x ≠ 0x5d) : unstuff false l = none := by
  unfold At at h
  rw [h, drop_at hx]
  simp [unstuff, h1, h2]
theorem At.turn {l : List UInt8} {k : Nat} {out : List UInt8} (h : At l k true out) {x : UInt8} (hx : l[k]? = some x) (h1 : x = 0x5e ∨ x = 0x5d) : At l (k + 1) false (out ++ [x ^^^ 0x20]) := by
  unfold At at h ⊢
  rw [h, drop_at hx]
  simp only [unstuff, if_pos h1, Option.map_map]
  congr 1
  funext m
  simp
theorem At.esc {l : List UInt8} {k : Nat} {out : List UInt8} (h : At l k false out) (hx : l[k]? = some 0x7d) : At l (k + 1) true out := by
  unfold At at h ⊢
  rw [h, drop_at hx]
  simp [unstuff]
theorem At.plain {l : List UInt8} {k : Nat} {out : List UInt8} (h : At l k false out) {x : UInt8} (hx : l[k]? = some x) (h1 : x ≠ 0x7e) (h2 : x ≠ 0x7d) : At l (k + 1) false (out ++ [x]) := by
  unfold At at h ⊢
  rw [h, drop_at hx]
  simp only [unstuff, if_neg h1, if_neg h2, Option.map_map]
  congr 1
  funext m
  simp
theorem At.ended {l : List UInt8} {k : Nat} {t : Bool} {out : List UInt8} (h : At l k t out) (hk : l.length ≤ k) : unstuff false l = if t then none else some out := by
  unfold At at h
  rw [h, List.drop_of_length_le hk]
  cases t <;> simp [unstuff]

end Go.Proofs.Ytiffbmnenbnglaa.Stf
