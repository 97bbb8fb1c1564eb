/-
  PLAIN LAWS OF LinePlays: bytes with the tick at which each comes, against bytes with how many ticks each needs.
-/
import Derived.Test.YtgiboekjjnmnnaaCells
import Derived.Test.YtgiboekjjnmnnaaLineWalk
namespace Go.Proofs.Ytgiboekjjnmnnaa
open Go.RowKit

/-- bytes on their way, as the document has them -/
def ways (nw : Int) (p : List UInt8) (due : List Int) : List (UInt8 × Int) := List.zipWith (fun b d => (b, max 0 (d - nw))) p due
/-- their cells -/
def wcs : List (UInt8 × Int) → List Value
  | [] => []
  | x :: l => bv x.1 :: .int .i64 x.2 :: wcs l

theorem wcs_len : ∀ l : List (UInt8 × Int), (wcs l).length = l.length * 2
  | [] => rfl
  | _ :: l => by simp [wcs, wcs_len l]; omega
theorem wcs_append : ∀ a b : List (UInt8 × Int), wcs (a ++ b) = wcs a ++ wcs b
  | [], _ => rfl
  | _ :: a, b => by simp [wcs, wcs_append a b]
theorem wcs_take : ∀ (l : List (UInt8 × Int)) (k : Nat), wcs (l.take k) = (wcs l).take (k * 2)
  | [], k => by simp [wcs]
  | x :: l, 0 => by simp [wcs]
  | x :: l, k + 1 => by rw [show (k + 1) * 2 = k * 2 + 2 by omega]; simp [wcs, wcs_take l k]
theorem wcs_drop : ∀ (l : List (UInt8 × Int)) (k : Nat), wcs (l.drop k) = (wcs l).drop (k * 2)
  | [], k => by simp [wcs]
  | x :: l, 0 => by simp [wcs]
  | x :: l, k + 1 => by rw [show (k + 1) * 2 = k * 2 + 2 by omega]; simp [wcs, wcs_drop l k]
theorem wcs_get : ∀ (l : List (UInt8 × Int)) (k : Nat) (x : UInt8 × Int), l[k]? = some x → (wcs l)[k * 2 + 0]? = some (bv x.1) ∧ (wcs l)[k * 2 + 1]? = some (.int .i64 x.2)
  | y :: l, 0, x, h => by simp at h; subst h; simp [wcs]
  | y :: l, k + 1, x, h => by
    have := wcs_get l k x (by simpa using h)
    rw [show (k + 1) * 2 + 0 = k * 2 + 0 + 2 by omega, show (k + 1) * 2 + 1 = k * 2 + 1 + 2 by omega]
    simpa [wcs] using this
theorem wcs_one : ∀ (l : List (UInt8 × Int)), ∀ u ∈ wcs l, u.oneCell' = true
  | [], u, h => by cases h
  | x :: l, u, h => by
    simp only [wcs, List.mem_cons] at h
    rcases h with rfl | rfl | h
    · rfl
    · rfl
    · exact wcs_one l u h

theorem ways_len {nw : Int} {p : List UInt8} {due : List Int} (h : p.length = due.length) : (ways nw p due).length = p.length := by simp [ways, h]
theorem ways_fst {nw : Int} : ∀ {p : List UInt8} {due : List Int}, p.length = due.length → (ways nw p due).map Prod.fst = p
  | [], [], _ => rfl
  | b :: p, d :: due, h => by simpa [ways] using ways_fst (nw := nw) (p := p) (due := due) (by simpa using h)
theorem ways_get {nw : Int} {p : List UInt8} {due : List Int} {k : Nat} {b : UInt8} {d : Int} (hb : p[k]? = some b) (hd : due[k]? = some d) : (ways nw p due)[k]? = some (b, max 0 (d - nw)) := by
  simp [ways, List.getElem?_zipWith, hb, hd]
theorem ways_take {nw : Int} {p : List UInt8} {due : List Int} (k : Nat) : ways nw (p.take k) (due.take k) = (ways nw p due).take k := by simp [ways, List.take_zipWith]
theorem ways_drop {nw : Int} {p : List UInt8} {due : List Int} (k : Nat) : ways nw (p.drop k) (due.drop k) = (ways nw p due).drop k := by simp [ways, List.drop_zipWith]
theorem ways_append {nw : Int} {p q : List UInt8} {due e : List Int} (h : p.length = due.length) : ways nw (p ++ q) (due ++ e) = ways nw p due ++ ways nw q e := by
  simp [ways, List.zipWith_append h]
theorem ways_put {nw dl : Int} (h : 0 ≤ dl) : ∀ (l : List UInt8), ways nw l (List.replicate l.length (nw + dl)) = l.map (·, dl)
  | [] => rfl
  | x :: l => by
    have := ways_put (nw := nw) h l
    have e : max 0 (nw + dl - nw) = dl := by omega
    simp only [ways, List.length_cons, List.replicate_succ, List.zipWith_cons_cons, List.map_cons, e] at this ⊢
    rw [this]
theorem ways_tick {nw : Int} {p : List UInt8} {due : List Int} : ways (nw + 1) p due = (ways nw p due).map fun x => (x.1, max 0 (x.2 - 1)) := by
  simp only [ways, List.map_zipWith]
  congr
  funext b d
  congr 1
  omega
theorem ways_set {nw : Int} {b : UInt8} : ∀ {p : List UInt8} {due : List Int} {k : Nat} {d : Int}, due[k]? = some d → ways nw (p.set k b) due = (ways nw p due).set k (b, max 0 (d - nw))
  | [], _, _, _, _ => by simp [ways]
  | x :: p, [], k, d, h => by simp at h
  | x :: p, y :: due, 0, d, h => by simp at h; subst h; simp [ways]
  | x :: p, y :: due, k + 1, d, h => by simpa [ways] using ways_set (nw := nw) (b := b) (p := p) (due := due) (k := k) (d := d) (by simpa using h)
/-- how many bytes have come -/
theorem ways_come (nw : Int) : ∀ (due : List Int), ∃ k, k ≤ due.length ∧ (∀ j x, j < k → due[j]? = some x → x ≤ nw) ∧ (∀ x, due[k]? = some x → nw < x)
  | [] => ⟨0, Nat.le_refl _, by intro j x hj; omega, by simp⟩
  | d :: due => by
    by_cases h : d ≤ nw
    · obtain ⟨k, h1, h2, h3⟩ := ways_come nw due
      refine ⟨k + 1, by simp; omega, ?_, by simpa using h3⟩
      intro j x hj hx
      match j with
      | 0 => simp at hx; omega
      | j + 1 => exact h2 j x (by omega) (by simpa using hx)
    · exact ⟨0, Nat.zero_le _, by intro j x hj; omega, by intro x hx; simp at hx; omega⟩
end Go.Proofs.Ytgiboekjjnmnnaa
