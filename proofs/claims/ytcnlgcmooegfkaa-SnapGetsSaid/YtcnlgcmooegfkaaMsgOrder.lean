/-
  MsgOrder.
-/
import Derived.Test.YtcnlgcmooegfkaaMsgPut
namespace Go.Proofs.Ytcnlgcmooegfkaa
open Go.RowKit Mg

/-- three ids, boxed -/
def idc (i : Mid) : Obj := .cells #[.int .i64 i.o, .int .i64 i.d, .int .i64 i.e, .int .i64 i.c] 52

theorem boxes3 (w : World) (a b c : Mid) : ∃ w0, w0 = ((w.alloc (idc a)).alloc (idc b)).alloc (idc c) ∧ Below w.heap.size w w0 ∧ w.heap.size + 2 < w0.heap.size ∧ w0.heap[w.heap.size]? = some (idc a) ∧ w0.heap[w.heap.size + 1]? = some (idc b) ∧ w0.heap[w.heap.size + 2]? = some (idc c) := by
  refine ⟨_, rfl, (((Below.refl _ _).alloc (Nat.le_refl _) _).alloc (by simp) _).alloc (by simp; omega) _, by simp, ?_, ?_, ?_⟩
  · exact (heap_alloc_old _ _ (by simp; omega)).trans ((heap_alloc_old _ _ (by simp)).trans (heap_alloc_new _ _))
  · refine (heap_alloc_old _ _ (by simp)).trans ?_; have := heap_alloc_new (w.alloc (idc a)) (idc b)
    simpa using this
  · have := heap_alloc_new ((w.alloc (idc a)).alloc (idc b)) (idc c)
    simpa using this

theorem be2 (x : Nat) : be x 2 = [UInt8.ofNat (x / 256 % 256), UInt8.ofNat (x % 256)] := by simp [be, beB]
theorem ofNat_lt (x y : Nat) (hx : x < 256) (hy : y < 256) : (UInt8.ofNat x < UInt8.ofNat y) ↔ x < y := by
  rw [UInt8.lt_iff_toNat_lt, UInt8.toNat_ofNat', UInt8.toNat_ofNat', Nat.mod_eq_of_lt hx, Nat.mod_eq_of_lt hy]
theorem ofNat_eq (x y : Nat) (hx : x < 256) (hy : y < 256) : (UInt8.ofNat x = UInt8.ofNat y) ↔ x = y := by
  rw [← UInt8.toNat_inj, UInt8.toNat_ofNat', UInt8.toNat_ofNat', Nat.mod_eq_of_lt hx, Nat.mod_eq_of_lt hy]
/-- ids that may be stand in the order of their bytes -/
theorem less_bytes (a b : Mid) (ha : In a) (hb : In b) : Op.bytesLess (idB a) (idB b) = less a b := by
  obtain ⟨ao, ad, ae, ac⟩ := a; obtain ⟨bo, bd, be', bc⟩ := b; obtain ⟨⟨a0, a1⟩, ⟨a2, a3⟩, ⟨a4, a5⟩, a6, a7⟩ := ha; obtain ⟨⟨b0, b1⟩, ⟨b2, b3⟩, ⟨b4, b5⟩, b6, b7⟩ := hb; simp only at a0 a1 a2 a3 a4 a5 a6 a7 b0 b1 b2 b3 b4 b5 b6 b7; obtain ⟨x0, rfl⟩ := Int.eq_ofNat_of_zero_le a0; obtain ⟨x1, rfl⟩ := Int.eq_ofNat_of_zero_le a2; obtain ⟨x2, rfl⟩ := Int.eq_ofNat_of_zero_le (show 0 ≤ ae by omega); obtain ⟨x3, rfl⟩ := Int.eq_ofNat_of_zero_le (show 0 ≤ ac by omega); obtain ⟨y0, rfl⟩ := Int.eq_ofNat_of_zero_le b0; obtain ⟨y1, rfl⟩ := Int.eq_ofNat_of_zero_le b2; obtain ⟨y2, rfl⟩ := Int.eq_ofNat_of_zero_le (show 0 ≤ be' by omega); obtain ⟨y3, rfl⟩ := Int.eq_ofNat_of_zero_le (show 0 ≤ bc by omega); unfold idB less; simp only [Int.toNat_natCast, be2, List.cons_append, List.nil_append, Op.bytesLess]; rw [show x2 / 256 % 256 = x2 / 256 by omega, show x3 / 256 % 256 = x3 / 256 by omega, show y2 / 256 % 256 = y2 / 256 by omega, show y3 / 256 % 256 = y3 / 256 by omega]; rw [Bool.eq_iff_iff]; simp only [Bool.or_eq_true, Bool.and_eq_true, decide_eq_true_eq, beq_iff_eq]; rw [ofNat_lt x0 y0 (by omega) (by omega), ofNat_lt x1 y1 (by omega) (by omega), ofNat_lt (x2 / 256) (y2 / 256) (by omega) (by omega), ofNat_lt (x2 % 256) (y2 % 256) (by omega) (by omega), ofNat_lt (x3 / 256) (y3 / 256) (by omega) (by omega), ofNat_lt (x3 % 256) (y3 % 256) (by omega) (by omega),
    ofNat_eq x0 y0 (by omega) (by omega), ofNat_eq x1 y1 (by omega) (by omega), ofNat_eq (x2 / 256) (y2 / 256) (by omega) (by omega), ofNat_eq (x2 % 256) (y2 % 256) (by omega) (by omega), ofNat_eq (x3 / 256) (y3 / 256) (by omega) (by omega)]
  split
  · simp only [decide_eq_true_eq]; omega
  · split
    · simp only [decide_eq_true_eq]; omega
    · split
      · simp only [decide_eq_true_eq]; omega
      · simp only [decide_eq_true_eq, Bool.false_eq_true, or_false, and_false]; omega
theorem less_total (a b : Mid) (h : a ≠ b) : less a b = !less b a := by
  obtain ⟨ao, ad, ae, ac⟩ := a; obtain ⟨bo, bd, be, bc⟩ := b; have h' : ¬ (ao = bo ∧ ad = bd ∧ ae = be ∧ ac = bc) := fun ⟨h1, h2, h3, h4⟩ => h (by rw [h1, h2, h3, h4])
  rw [Bool.eq_iff_iff]; unfold less; simp only [Bool.not_eq_true', ← Bool.not_eq_true]
  repeat' split
  all_goals simp only [decide_eq_true_eq]
  all_goals omega
theorem less_trans (a b c : Mid) (h : less a b = true) (k : less b c = true) : less a c = true := by
  obtain ⟨ao, ad, ae, ac⟩ := a; obtain ⟨bo, bd, be, bc⟩ := b; obtain ⟨co, cd, ce, cc⟩ := c; unfold less at *; simp only at *
  repeat' split at h
  all_goals repeat' split at k
  all_goals repeat' split
  all_goals simp only [decide_eq_true_eq] at *
  all_goals omega

/-- an id's bytes, none where it may not be -/
def pb (i : Mid) : List UInt8 := if chk i = 0 then idB i else []
theorem in_of_chk {i : Mid} (h : chk i = 0) : In i := by
  unfold chk at h
  split at h
  · assumption
  · cases h
theorem idB_len (i : Mid) : (idB i).length = 6 := by simp [idB, be_len]
theorem pb_len (i : Mid) : (pb i).length ≤ 6 := by
  unfold pb
  split
  · rw [idB_len]; omega
  · simp
theorem putid_any (i : Mid) (w : World) : Calls Try.prog 40 #[idv i] w fun en w' => ∃ A n k, en = .returned (.tuple #[.slice A n k, .int .i64 (chk i)]) ∧ n = (pb i).length ∧ OwnB w' w.heap.size 5 (.slice A n k) (pb i) ∧ Below w.heap.size w w' := by
  by_cases h : chk i = 0
  · have hin := in_of_chk h; have hpb : pb i = idB i := if_pos h; obtain ⟨o, d, e, c⟩ := i; obtain ⟨⟨a0, a1⟩, ⟨a2, a3⟩, ⟨a4, a5⟩, a6, a7⟩ := hin; simp only at a0 a1 a2 a3 a4 a5 a6 a7; obtain ⟨x0, rfl⟩ := Int.eq_ofNat_of_zero_le a0; obtain ⟨x1, rfl⟩ := Int.eq_ofNat_of_zero_le a2; obtain ⟨x2, rfl⟩ := Int.eq_ofNat_of_zero_le (show 0 ≤ e by omega); obtain ⟨x3, rfl⟩ := Int.eq_ofNat_of_zero_le (show 0 ≤ c by omega); refine (putid_ok x0 x1 x2 x3 w (by omega) (by omega) (by omega) (by omega) (by omega) (by omega) h).mono ?_; rintro en w' ⟨A, k, rfl, ho, hb⟩; rw [hpb, h]; exact ⟨A, 6, k, rfl, (idB_len _).symm, ho, hb⟩
  · refine (putid_bad i w h).mono ?_; rintro en w' ⟨rfl, hb⟩; have hpb : pb i = [] := if_neg h; rw [hpb]; exact ⟨none, 0, 0, rfl, rfl, World.ownsRow_nil _ _ _ _, hb⟩

end Go.Proofs.Ytcnlgcmooegfkaa
