/-
  PLAIN LAWS OF LineWhole: parts on their way, when each byte comes.
-/
import Derived.Test.YtgiboekjjnmnnaaBase
namespace Go.Proofs.Ytgiboekjjnmnnaa
namespace Lin

/-- when the bytes of parts come, the first of which is part t -/
def dues (dl : Int) : Nat → List (List UInt8) → List Int
  | _, [] => []
  | t, x :: r => List.replicate x.length ((t : Int) + dl) ++ dues dl (t + 1) r

theorem dues_len (dl : Int) : ∀ (ls : List (List UInt8)) (t : Nat), (dues dl t ls).length = ls.flatten.length
  | [], _ => rfl
  | x :: r, t => by simp [dues, dues_len dl r (t + 1)]
theorem dues_snoc (dl : Int) (x : List UInt8) : ∀ (ls : List (List UInt8)) (t : Nat), dues dl t (ls ++ [x]) = dues dl t ls ++ List.replicate x.length (((t + ls.length : Nat) : Int) + dl)
  | [], t => by simp [dues]
  | y :: r, t => by
    simp only [List.cons_append, dues, dues_snoc dl x r (t + 1), List.append_assoc, List.length_cons]
    congr 3
    push_cast
    omega
theorem dues_ge (dl : Int) : ∀ (ls : List (List UInt8)) (t : Nat) (j : Nat) (x : Int), (dues dl t ls)[j]? = some x → (t : Int) + dl ≤ x ∧ x < (t : Int) + ls.length + dl
  | [], _, j, x, h => by simp [dues] at h
  | y :: r, t, j, x, h => by
    simp only [dues] at h
    rw [List.getElem?_append] at h
    split at h
    · rw [List.getElem?_replicate] at h
      split at h
      · injection h with h
        simp only [List.length_cons]
        omega
      · cases h
    · have := dues_ge dl r (t + 1) _ x h
      simp only [List.length_cons]
      omega
/-- the first part's bytes come first -/
theorem dues_head (dl : Int) (y : List UInt8) (r : List (List UInt8)) (t j : Nat) (x : Int) (hj : j < y.length) (h : (dues dl t (y :: r))[j]? = some x) : x = (t : Int) + dl := by
  simp only [dues] at h
  rw [List.getElem?_append_left (by simpa using hj), List.getElem?_replicate, if_pos hj] at h
  injection h with h
  exact h.symm
theorem dues_tail (dl : Int) (y : List UInt8) (r : List (List UInt8)) (t : Nat) : (dues dl t (y :: r)).drop y.length = dues dl (t + 1) r := by
  simp only [dues]
  rw [List.drop_left' (by simp)]
theorem drop_head (y : List UInt8) (r : List (List UInt8)) : ((y :: r).flatten).drop y.length = r.flatten := by simp
theorem take_head (y : List UInt8) (r : List (List UInt8)) : ((y :: r).flatten).take y.length = y := by simp
theorem seg_cons (ls : List (List UInt8)) (a b : Nat) (x : List UInt8) (hx : ls[a]? = some x) (hab : a < b) : (ls.take b).drop a = x :: (ls.take b).drop (a + 1) := by
  have hl := (List.getElem?_eq_some_iff.1 hx).1
  rw [List.drop_eq_getElem_cons (by simp; omega)]
  congr 1
  rw [List.getElem_take]
  exact (List.getElem?_eq_some_iff.1 hx).2
theorem seg_snoc (ls : List (List UInt8)) (a b : Nat) (x : List UInt8) (hx : ls[b]? = some x) (hab : a ≤ b) : (ls.take (b + 1)).drop a = (ls.take b).drop a ++ [x] := by
  have hl := (List.getElem?_eq_some_iff.1 hx).1
  rw [List.take_add_one, hx, Option.toList_some, List.drop_append_of_le_length (by simp; omega)]
theorem seg_all (ls : List (List UInt8)) (a b : Nat) : (ls.take a).flatten ++ ((ls.take b).drop a).flatten = (ls.take (max a b)).flatten := by
  rw [← List.flatten_append]
  congr 1
  rcases Nat.le_total a b with h | h
  · rw [Nat.max_eq_right h]
    have : ls.take a = (ls.take b).take a := by rw [List.take_take, Nat.min_eq_left h]
    rw [this, List.take_append_drop]
  · rw [Nat.max_eq_left h, List.drop_of_length_le (by simp; omega), List.append_nil]
/-- how many bytes the first parts are -/
def ends (ls : List (List UInt8)) (n : Nat) : List Int := (List.range n).map fun i => (((ls.take (i + 1)).flatten.length : Nat) : Int)
theorem ends_snoc (ls : List (List UInt8)) (n : Nat) : ends ls (n + 1) = ends ls n ++ [(((ls.take (n + 1)).flatten.length : Nat) : Int)] := by simp [ends, List.range_succ]
theorem ends_len (ls : List (List UInt8)) (n : Nat) : (ends ls n).length = n := by simp [ends]
theorem ends_at (ls : List (List UInt8)) (n i : Nat) (h : i < n) : (ends ls n)[i]? = some (((ls.take (i + 1)).flatten.length : Nat) : Int) := by simp [ends, h]
theorem put_seg (ls : List (List UInt8)) (dn k : Nat) (x : List UInt8) (hx : ls[k]? = some x) :
    ((ls.take k).drop (k - dn)).flatten ++ x = ((ls.take (k + 1)).drop (k - dn)).flatten ∧
    dues dn (k - dn) ((ls.take k).drop (k - dn)) ++ List.replicate x.length ((k : Int) + dn) = dues dn (k - dn) ((ls.take (k + 1)).drop (k - dn)) := by
  have hl := (List.getElem?_eq_some_iff.1 hx).1
  rw [seg_snoc ls (k - dn) k x hx (by omega)]
  refine ⟨by simp, ?_⟩
  rw [dues_snoc]
  have : k - dn + ((ls.take k).drop (k - dn)).length = k := by simp; omega
  rw [this]
/-- what a take takes behind part k -/
theorem step (ls : List (List UInt8)) (dn k : Nat) (x : List UInt8) (hx : ls[k]? = some x) : ∃ tk,
    tk ≤ ((ls.take (k + 1)).drop (k - dn)).flatten.length ∧
    (∀ j y, j < tk → (dues dn (k - dn) ((ls.take (k + 1)).drop (k - dn)))[j]? = some y → y ≤ (k : Int)) ∧
    (∀ y, (dues dn (k - dn) ((ls.take (k + 1)).drop (k - dn)))[tk]? = some y → (k : Int) < y) ∧
    (ls.take (k - dn)).flatten ++ ((ls.take (k + 1)).drop (k - dn)).flatten.take tk = (ls.take (k + 1 - dn)).flatten ∧
    ((ls.take (k + 1)).drop (k - dn)).flatten.drop tk = ((ls.take (k + 1)).drop (k + 1 - dn)).flatten ∧
    (dues dn (k - dn) ((ls.take (k + 1)).drop (k - dn))).drop tk = dues dn (k + 1 - dn) ((ls.take (k + 1)).drop (k + 1 - dn)) := by
  have hl := (List.getElem?_eq_some_iff.1 hx).1
  by_cases h : dn ≤ k
  · obtain ⟨a, ha⟩ : ∃ a, a = k - dn := ⟨_, rfl⟩
    have ha1 : k + 1 - dn = a + 1 := by omega
    have hal : a < ls.length := by omega
    obtain ⟨y, hy⟩ : ∃ y, ls[a]? = some y := ⟨_, List.getElem?_eq_getElem hal⟩
    rw [← ha, ha1, seg_cons ls a (k + 1) y hy (by omega)]
    obtain ⟨r, hr⟩ : ∃ r, r = (ls.take (k + 1)).drop (a + 1) := ⟨_, rfl⟩
    rw [← hr]
    refine ⟨y.length, by simp, ?_, ?_, ?_, drop_head y r, dues_tail _ _ _ _⟩
    · intro j z hj hz
      have := dues_head dn y r a j z hj hz
      omega
    · intro z hz
      rw [← Nat.add_zero y.length, ← List.getElem?_drop, dues_tail] at hz
      have := (dues_ge dn r (a + 1) 0 z hz).1
      push_cast at this
      omega
    · rw [take_head, List.take_add_one, hy]
      simp
  · have h0 : k - dn = 0 := by omega
    have h1 : k + 1 - dn = 0 := by omega
    rw [h0, h1]
    refine ⟨0, by omega, by intro j z hj; omega, ?_, by simp, by simp, by simp⟩
    intro z hz
    have := (dues_ge dn _ 0 0 z hz).1
    push_cast at this
    omega
end Lin
end Go.Proofs.Ytgiboekjjnmnnaa
