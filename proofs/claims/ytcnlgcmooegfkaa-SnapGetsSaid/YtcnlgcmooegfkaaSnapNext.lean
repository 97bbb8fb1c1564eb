/-
  THE BYTES OF A STATE, READ: the walk of the function inside snap.Get.
-/
import Derived.Test.YtcnlgcmooegfkaaSnapGetN
import Derived.Test.YtcnlgcmooegfkaaSnapPut
namespace Go.Proofs.Ytcnlgcmooegfkaa
open Go.RowKit

/-- what is read of bytes; whether they end ahead of it -/
def rdV (l : List UInt8) (at_ size : Nat) : Nat := if at_ + size ≤ l.length then nval ((l.drop at_).take size) else 0
def rdF (l : List UInt8) (at_ size : Nat) : Bool := decide (l.length < at_ + size)
theorem bget_any (A : Option Addr) (n c : Nat) (l : List UInt8) (at_ size : Nat) (w : World) (hR : Rd w A n c l) (hn : n ≤ 281474976710656) (hat : at_ ≤ 600000000000000) (hs : 1 ≤ size) (hs4 : size ≤ 4) :
    Calls Try.prog 32 #[.slice A n c, .int .i64 at_, .int .i64 size] w fun e w' => e = .returned (.tuple #[.int .u64 (rdV l at_ size), .int .i64 (if rdF l at_ size then 2 else 0)]) ∧ Below w.heap.size w w' := by
  have hl := hR.len
  by_cases h : at_ + size ≤ n
  · have := bget_ok A n c l at_ size w hR hn h hs hs4; rw [rdV, if_pos (by omega), rdF, decide_eq_false (by omega)]; exact this
  · have := bget_no A n c at_ size w hn (by omega) hs hs4 hat; rw [rdV, if_neg (by omega), rdF, decide_eq_true (by omega)]; exact this

theorem two_sets {w : World} {p q : Nat} {a b x y : Value} {T U : TypeId} (h : p ≠ q) (hp : w.heap[p]? = some (.cells #[a] T (0, 0))) (hq : w.heap[q]? = some (.cells #[b] U (0, 0))) :
    ((w.setCell ⟨q, 0, none⟩ x).setCell ⟨p, 0, none⟩ y).heap[p]? = some (.cells #[y] T (0, 0)) ∧ ((w.setCell ⟨q, 0, none⟩ x).setCell ⟨p, 0, none⟩ y).heap[q]? = some (.cells #[x] U (0, 0)) := by
  have h1 := heap_setCell_same (w.setCell ⟨q, 0, none⟩ x) p 0 _ _ y ((heap_setCell_other w ⟨q, 0, none⟩ p x h).trans hp); have h2 := heap_setCell_same w q 0 _ _ x hq; exact ⟨by simpa using h1, (heap_setCell_other _ ⟨p, 0, none⟩ q y (fun e => h e.symm)).trans (by simpa using h2)⟩
set_option maxRecDepth 100000 in
set_option maxHeartbeats 2000000 in
theorem next_any (A : Option Addr) (n c : Nat) (l : List UInt8) (at_ size p4 p7 p8 : Nat) (bad : Bool) (w : World) (hR : Rd w A n c l) (hn : n ≤ 281474976710656) (hat : at_ ≤ 600000000000000) (hs : 1 ≤ size) (hs4 : size ≤ 2)
    (h4 : w.heap[p4]? = some (.cells #[.slice A n c] 28 (0, 0))) (h7 : w.heap[p7]? = some (.cells #[.int .i64 at_] 3 (0, 0))) (h8 : w.heap[p8]? = some (.cells #[.bool bad] 4 (0, 0))) (h78 : p7 ≠ p8) :
    Calls Try.prog 33 #[.int .i64 size, .pointer (some ⟨p4, 0, none⟩), .pointer (some ⟨p7, 0, none⟩), .pointer (some ⟨p8, 0, none⟩)] w fun e w' => e = .returned (.int .i64 (rdV l at_ size)) ∧ Kept (fun j => j = p7 ∨ j = p8) w w' ∧ w'.heap[p7]? = some (.cells #[.int .i64 ((at_ + size : Nat) : Int)] 3 (0, 0)) ∧ w'.heap[p8]? = some (.cells #[.bool (bad || rdF l at_ size)] 4 (0, 0)) := by
  have HG : Hid (∀ w' : World, Below w.heap.size w w' → Calls Try.prog 32 #[.slice A n c, .int .i64 at_, .int .i64 size] w' fun e w'' => e = .returned (.tuple #[.int .u64 (rdV l at_ size), .int .i64 (if rdF l at_ size then 2 else 0)]) ∧ Below w'.heap.size w' w'') := fun w' h => bget_any A n c l at_ size w' (hR.below h) hn (by omega) hs (by omega)
  have hvl : rdV l at_ size < 4294967296 := by
    unfold rdV
    split
    · have h1 := nval_lt ((l.drop at_).take size); have h2 : 256 ^ ((l.drop at_).take size).length ≤ 256 ^ 2 := Nat.pow_le_pow_right (by omega) (by rw [List.length_take]; omega); omega
    · omega
  obtain ⟨V, hV⟩ : ∃ V, V = rdV l at_ size := ⟨_, rfl⟩; obtain ⟨F, hF⟩ : ∃ F, F = rdF l at_ size := ⟨_, rfl⟩; rw [← hV, ← hF] at HG; rw [← hV] at hvl ⊢; rw [← hF]; have c4 := cell_of_cells h4 0; have c7 := cell_of_cells h7 0; simp at c4 c7; have l7 := (Array.getElem?_eq_some_iff.1 h7).1; have l8 := (Array.getElem?_eq_some_iff.1 h8).1; have hcv : IntKind.i64.wrap (V : Int) = (V : Int) := IntWalk.i64_in _ (by omega); have has : IntKind.i64.wrap ((at_ : Int) + (size : Int)) = ((at_ + size : Nat) : Int) := by rw [IntWalk.i64_in _ (by omega)]; omega
  have H7 := Lib.hid h7; have H8 := Lib.hid h8; clear hR h4 h7 h8 hV hF
  go_enter Try.func33, Try.ntmps33
  go_wp2_with fail
  refine (HG.out w (Below.refl _ _)).mono ?_; rintro e9 w9 ⟨rfl, hb⟩; have h79 := (hb.block p7 l7).trans H7.out; have h89 := (hb.block p8 l8).trans H8.out; have d7 := cell_of_cells h79 0; have d8 := cell_of_cells h89 0; have f7 := frozen_of_row w9 p7 0 _ _ h79; have f8 := frozen_of_row w9 p8 0 _ _ h89; simp at d7 d8; have HB := Lib.hid hb; clear c4 c7 hb h79 h89
  cases bad <;> cases F <;> (go_wp2_with fail)
  all_goals
    go_ret
    refine ⟨rfl, ((Kept.all HB.out).setCell (p := ⟨p8, 0, none⟩) (.inl (.inr rfl)) _).setCell (p := ⟨p7, 0, none⟩) (.inl (.inl rfl)) _, ?_, ?_⟩
    · exact (two_sets h78 ((HB.out.block p7 l7).trans H7.out) ((HB.out.block p8 l8).trans H8.out)).1
    · exact (two_sets h78 ((HB.out.block p7 l7).trans H7.out) ((HB.out.block p8 l8).trans H8.out)).2
end Go.Proofs.Ytcnlgcmooegfkaa
