/-
  PLAIN LAWS OF WHAT STANDS BETWEEN FLAGS.
-/
import Derived.Test.YtiffbmnenbnglaaStuffCut
namespace Go.Proofs.Ytiffbmnenbnglaa
open Go.RowKit

/-- what stands between flags -/
def parts : List UInt8 → List (List UInt8)
  | [] => [[]]
  | b :: l => if b = 0x7e then [] :: parts l else ((b :: (parts l).headD []) :: (parts l).tail)
/-- bytes ahead of the first part -/
def ahead (u : List UInt8) (ps : List (List UInt8)) : List (List UInt8) := (u ++ ps.headD []) :: ps.tail
theorem parts_ne (l : List UInt8) : ∃ q r, parts l = q :: r := by
  cases l with
  | nil => exact ⟨[], [], rfl⟩
  | cons b l =>
    unfold parts
    split
    · exact ⟨_, _, rfl⟩
    · exact ⟨_, _, rfl⟩
theorem ahead_nil (l : List UInt8) : ahead [] (parts l) = parts l := by
  obtain ⟨q, r, h⟩ := parts_ne l
  rw [h]
  simp [ahead]
theorem ahead_flag (u l : List UInt8) : ahead u (parts (0x7e :: l)) = u :: parts l := by
  rw [parts, if_pos rfl]
  simp [ahead]
theorem ahead_other (u l : List UInt8) (b : UInt8) (h : b ≠ 0x7e) : ahead u (parts (b :: l)) = ahead (u ++ [b]) (parts l) := by
  rw [parts, if_neg h]
  simp [ahead]
theorem ahead_end (u : List UInt8) : ahead u (parts []) = [u] := by simp [ahead, parts]
theorem parts_len : ∀ l : List UInt8, (parts l).length ≤ l.length + 1
  | [] => by simp [parts]
  | b :: l => by
    have := parts_len l
    unfold parts
    split
    · simp; omega
    · simp; omega
/-- one cut more -/
theorem parts_cut : ∀ l : List UInt8, parts l = if (cutB l 0x7e).2.2 = true then (cutB l 0x7e).1 :: parts (cutB l 0x7e).2.1 else [(cutB l 0x7e).1]
  | [] => by simp [parts, cutB]
  | b :: l => by
    have ih := parts_cut l
    have e1 : parts (b :: l) = if b = 0x7e then [] :: parts l else ((b :: (parts l).headD []) :: (parts l).tail) := by rw [parts]
    have e2 : cutB (b :: l) 0x7e = if b = 0x7e then ([], l, true) else (b :: (cutB l 0x7e).1, (cutB l 0x7e).2.1, (cutB l 0x7e).2.2) := by rw [cutB]
    rw [e1, e2]
    by_cases h : b = 0x7e
    · rw [if_pos h, if_pos h, if_pos rfl]
    · rw [if_neg h, if_neg h, ih]
      by_cases hc : (cutB l 0x7e).2.2 = true
      · rw [if_pos hc, if_pos hc]; rfl
      · rw [if_neg hc, if_neg hc]; rfl
/-- the parts, with flags between, are the bytes -/
def joinF : List (List UInt8) → List UInt8
  | [] => []
  | [q] => q
  | q :: r => q ++ 0x7e :: joinF r
theorem joinF_cons (q : List UInt8) (r : List (List UInt8)) (h : r ≠ []) : joinF (q :: r) = q ++ 0x7e :: joinF r := by
  cases r with
  | nil => exact absurd rfl h
  | cons a r => rfl
theorem join_parts : ∀ l : List UInt8, joinF (parts l) = l
  | [] => rfl
  | b :: l => by
    have ih := join_parts l
    obtain ⟨q, r, h⟩ := parts_ne l
    unfold parts
    by_cases hb : b = 0x7e
    · rw [if_pos hb, joinF_cons _ _ (by rw [h]; simp), ih, hb]
      rfl
    · rw [if_neg hb, h]
      rw [h] at ih
      simp only [List.headD_cons, List.tail_cons]
      cases r with
      | nil => simp only [joinF] at ih ⊢; rw [ih]
      | cons a r =>
        rw [joinF_cons _ _ (by simp)] at ih ⊢
        rw [List.cons_append, ih]
/-- bytes without a flag, a flag behind them, and more -/
theorem parts_clean (q l : List UInt8) (h : ∀ b ∈ q, b ≠ 0x7e) : parts (q ++ 0x7e :: l) = q :: parts l := by
  induction q with
  | nil => rw [List.nil_append, parts, if_pos rfl]
  | cons b q ih =>
    rw [List.cons_append, parts, if_neg (h b (by simp)), ih (fun x hx => h x (by simp [hx]))]
    simp
end Go.Proofs.Ytiffbmnenbnglaa
