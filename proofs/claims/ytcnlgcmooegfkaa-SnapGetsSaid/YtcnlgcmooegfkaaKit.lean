/-
  SMALL LAWS THAT MANY WALKS WANT: endings, stores into own rows, what a literal lays.
-/
import Derived.Test.YtcnlgcmooegfkaaMem
import Derived.Test.YtcnlgcmooegfkaaFree
import Derived.Lib.SlBytesConst
namespace Go.Proofs.Ytcnlgcmooegfkaa
open Go.RowKit

theorem ret_int {k : IntKind} {a b : Int} (h : a = b) : Ending.returned (.int k a) = .returned (.int k b) := by rw [h]

theorem ret_bool {a b : Bool} (h : a = b) : Ending.returned (.bool a) = .returned (.bool b) := by rw [h]

theorem flat_take {α : Type} (ls : List (List α)) (k : Nat) (l : List α) (h : ls[k]? = some l) : (ls.take (k + 1)).flatten = (ls.take k).flatten ++ l := by
  rw [List.take_add_one, h]; simp

/-- a store into bytes of the call's own -/
theorem OwnB.store {w : World} {B : Nat} {e : TypeId} {g n c : Nat} {l : List UInt8} (h : OwnB w B e (.slice (some ⟨g, 0, none⟩) n c) l) (hn : l.length = n) (i : Nat) (x : UInt8) : OwnB (w.setCell ⟨g, i, none⟩ (bv x)) B e (.slice (some ⟨g, 0, none⟩) n c) (l.set i x) := by
  subst hn; have := (World.ownsRow.stored h i (bv x)).1; unfold OwnB; rw [List.length_set]; have e : (bs l).set i (bv x) = bs (l.set i x) := by simp [bs, List.map_set]
  rw [← e]; exact this
theorem OwnB.at_ {w : World} {B : Nat} {e : TypeId} {A : Option Addr} {n c : Nat} {l : List UInt8} (h : OwnB w B e (.slice A n c) l) (hn : l.length = n) (hp : 0 < n) :
    ∃ g, A = some ⟨g, 0, none⟩ ∧ B ≤ g ∧ g < w.heap.size := by
  subst hn; obtain ⟨g, cap, hv, hb, hlt⟩ := h.form hp; injection hv with h1
  exact ⟨g, h1, hb, hlt⟩
theorem OwnB.cell {w : World} {B : Nat} {e : TypeId} {g n c : Nat} {l : List UInt8} (h : OwnB w B e (.slice (some ⟨g, 0, none⟩) n c) l) (hn : l.length = n) (i : Nat) (hi : i < n) : w.cell? ⟨g, i, none⟩ = some (bv (l.getD i 0)) := by
  subst hn; have := World.ownsRow.cellAt h i (by omega); rw [this]; simp [bs, hi]
theorem OwnB.free {w : World} {B : Nat} {e : TypeId} {g n c : Nat} {l : List UInt8} (h : OwnB w B e (.slice (some ⟨g, 0, none⟩) n c) l) (hn : l.length = n) (i : Nat) : w.frozen? ⟨g, i, none⟩ = false := by
  subst hn; exact World.ownsRow.frozenAt h i

/-- bytes that a literal has laid -/
theorem rd_lit (w : World) (l : List UInt8) (n : Nat) (hn : l.length = n) (hb : n ≤ 281474976710656) (t : TypeId) (fr : Nat × Nat) : Rd (w.alloc (.cells (bs l).toArray t fr)) (some ⟨w.heap.size, 0, none⟩) n n l :=
  ⟨hn, Nat.le_refl _, hb, fun _ => ⟨_, _, rfl, by simp, fun j x hx => by
    rw [Nat.zero_add, World.cell?_alloc_mark]; simp [bs, hx]⟩⟩

/-- what is owned stays owned where the memory that was there stays -/
theorem own_below {w w' : World} {B : Nat} {e : TypeId} {size : Nat} {v : Value} {n : Nat} {xs : List Value} (h : w.ownsRow B e size v n xs) (hb : Below w.heap.size w w') : w'.ownsRow B e size v n xs := by
  refine ⟨h.1, ?_⟩
  rcases h.2 with h2 | ⟨g, cap, cur, hv, hg, hh, r⟩
  · exact .inl h2
  · exact .inr ⟨g, cap, cur, hv, hg, by rw [hb.block g (Array.getElem?_eq_some_iff.1 hh).1]; exact hh, r⟩

theorem inv_byte (y : UInt8) : Value.int .u8 ((255 - (y.toNat : Int)) % 256) = bv (255 - y) := by
  have h := y.toNat_lt; have e : (255 - y).toNat = 255 - y.toNat := by
    rw [UInt8.toNat_sub_of_le]
    · rfl
    · rw [UInt8.le_iff_toNat_le]; simp at h ⊢; omega
  unfold bv; rw [e]
  congr 1
  simp at h; omega

end Go.Proofs.Ytcnlgcmooegfkaa
