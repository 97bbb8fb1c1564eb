/-
  A FRAME WITH A NAMED SET OF BLOCKS: what a call through a pointer may have written.
-/
import Derived.Test.YtcnlgcmooegfkaaOwn
namespace Go.Proofs.Ytcnlgcmooegfkaa
open Go.RowKit

/-- of the blocks that were there only those in S may have been written -/
structure Kept (S : Nat → Prop) (w w' : World) : Prop where
  os : w'.os = w.os
  tape : w'.tape = w.tape
  output : w'.output = w.output
  size : w.heap.size ≤ w'.heap.size
  block : ∀ k, k < w.heap.size → ¬ S k → w'.heap[k]? = w.heap[k]?

section
variable {S S' : Nat → Prop} {a b c w w' : World}
theorem Kept.refl (S : Nat → Prop) (w : World) : Kept S w w := ⟨rfl, rfl, rfl, Nat.le_refl _, fun _ _ _ => rfl⟩
theorem Kept.trans (h : Kept S a b) (k : Kept S' b c) (hS : ∀ i, i < a.heap.size → S' i → S i) : Kept S a c :=
  ⟨k.os.trans h.os, k.tape.trans h.tape, k.output.trans h.output, Nat.le_trans h.size k.size, fun i hi hn => (k.block i (Nat.lt_of_lt_of_le hi h.size) fun hs => hn (hS i hi hs)).trans (h.block i hi hn)⟩
theorem Kept.mono (h : Kept S w w') (hS : ∀ i, i < w.heap.size → S i → S' i) : Kept S' w w' := ⟨h.os, h.tape, h.output, h.size, fun k hk hn => h.block k hk fun hs => hn (hS k hk hs)⟩
theorem Kept.drew (h : Kept S a w) : Kept S a w.drew := ⟨h.os, h.tape, h.output, h.size, h.block⟩
theorem Kept.alloc (h : Kept S a w) (o : Obj) : Kept S a (w.alloc o) :=
  ⟨h.os, h.tape, h.output, by have := h.size; simp; omega, fun k hk hn => (Below.heap_alloc _ _ _ (by have := h.size; omega)).trans (h.block k hk hn)⟩
theorem Kept.setCell (h : Kept S a w) {p : Addr} (hp : S p.block ∨ a.heap.size ≤ p.block) (u : Value) : Kept S a (w.setCell p u) :=
  ⟨h.os, h.tape, h.output, by have := h.size; simpa using this, fun k hk hn => by
    rw [Below.heap_setCell _ _ _ _ (by rintro rfl; rcases hp with hp | hp; exact hn hp; omega)]; exact h.block k hk hn⟩
theorem Kept.grown (h : Kept S a w) {row : Option Nat} (hg : w.grownBy w' row) (hr : ∀ k, row = some k → S k ∨ a.heap.size ≤ k) : Kept S a w' :=
  ⟨hg.os.trans h.os, hg.tape.trans h.tape, hg.output.trans h.output, Nat.le_trans h.size hg.size, fun k hk hn => by
    have hs := h.size; rw [hg.block k (by omega) (by intro e; rcases hr k e.symm with h' | h'; exact hn h'; omega)]; exact h.block k hk hn⟩
theorem Kept.of_below {B : Nat} (h : Below B w w') (hS : ∀ i, B ≤ i → S i) : Kept S w w' := ⟨h.os, h.tape, h.output, h.size, fun k _ hn => h.block k (by rcases Nat.lt_or_ge k B with h' | h'; exact h'; exact absurd (hS k h') hn)⟩
theorem Kept.all (h : Below w.heap.size w w') : Kept S w w' := ⟨h.os, h.tape, h.output, h.size, fun k hk _ => h.block k hk⟩
theorem Kept.below {B : Nat} (h : Kept S w w') (hB : B ≤ w.heap.size) (hS : ∀ i, i < B → ¬ S i) : Below B w w' :=
  ⟨h.os, h.tape, h.output, h.size, fun k hk => h.block k (by omega) (hS k hk)⟩

theorem Rd.keep {A : Option Addr} {n c : Nat} {l : List UInt8} (h : Rd w A n c l) (hs : w.heap.size ≤ w'.heap.size) (hk : ∀ b off, A = some ⟨b, off, none⟩ → b < w.heap.size → w'.heap[b]? = w.heap[b]?) : Rd w' A n c l :=
  ⟨h.len, h.cap, h.big, fun hn => by
    obtain ⟨b, off, rfl, hb, hc⟩ := h.at_ hn; refine ⟨b, off, rfl, by omega, fun j x hx => (World.cell?_of_block (w := w) (a := ⟨b, off + j, none⟩) (hk b off rfl hb)).trans (hc j x hx)⟩⟩
theorem Rd.low {B : Nat} {A : Option Addr} {n c : Nat} {l : List UInt8} (h : Rd w A n c l) (hb : Below B w w') (hA : ∀ b off, A = some ⟨b, off, none⟩ → b < B) : Rd w' A n c l :=
  h.keep hb.size fun b off e _ => hb.block b (hA b off e)
theorem row_keep {B : Nat} {e : TypeId} {size : Nat} {v : Value} {n : Nat} {xs : List Value} (h : w.ownsRow B e size v n xs) (hk : ∀ k, v.ownBlock = some k → w'.heap[k]? = w.heap[k]?) : w'.ownsRow B e size v n xs := by
  refine ⟨h.1, ?_⟩
  rcases h.2 with h2 | ⟨g, cap, cur, rfl, hg, hh, r⟩
  · exact .inl h2
  · exact .inr ⟨g, cap, cur, rfl, hg, (hk g rfl).trans hh, r⟩
end
end Go.Proofs.Ytcnlgcmooegfkaa
