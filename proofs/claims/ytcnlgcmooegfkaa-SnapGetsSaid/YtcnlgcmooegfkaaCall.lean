/-
  'x, y := f(..)' OF A STRUCT x WHOSE ADDRESS IS TAKEN: a region that calls, lays x's block and stores into it, in whatever order. What the call gives (bytes that are read) is never in x's block, for x's cells are no bytes.
-/
import Derived.Test.YtcnlgcmooegfkaaFlagC
import Derived.Test.YtcnlgcmooegfkaaCopy
namespace Go.Proofs.Ytcnlgcmooegfkaa
open Go.RowKit

abbrev slt (a : Act) (d : Nat) : Value := a.tmps[d]?.getD undef
theorem slt_put {a : Act} {d s : Nat} {v : Value} (h : s ≠ d) : slt (a.put (some d) v) s = slt a s := by
  have := Free.getD_put a (some d) v s; rw [if_neg (by intro e; injection e.1 with e; exact h e.symm)] at this
  simpa [slt, Array.getD_eq_getD_getElem?] using this
theorem slt_put' {a : Act} {d : Nat} {v : Value} (h : d < a.tmps.size) : slt (a.put (some d) v) d = v := by
  have := Free.getD_put a (some d) v d; rw [if_pos ⟨rfl, h⟩] at this
  simpa [slt, Array.getD_eq_getD_getElem?] using this
theorem upd_ne {L : Free.Done} {i j : Nat} (h : j ≠ i) : Free.upd L i j = L j := by simp [Free.upd, h]
theorem upd_eq {L : Free.Done} {i : Nat} : Free.upd L i i = true := by simp [Free.upd]

/-- none of the cells is a byte -/
def NoB (us : List Value) : Prop := ∀ u ∈ us, ∀ x : Int, u ≠ .int .u8 x
/-- memory has grown; of what was there only rows from block N on, of type T and without bytes, may have been written -/
def GrN (N : Nat) (T : TypeId) (x y : World) : Prop :=
  x.heap.size ≤ y.heap.size ∧ ∀ k, k < x.heap.size → y.heap[k]? = x.heap[k]? ∨ (N ≤ k ∧ ∃ us us' : List Value, x.heap[k]? = some (.cells us.toArray T (0, 0)) ∧ y.heap[k]? = some (.cells us'.toArray T (0, 0)) ∧ us'.length = us.length ∧ NoB us ∧ NoB us')
/-- a pointer to a row of n cells, none of them a byte -/
def TPtr (N : Nat) (T : TypeId) (n : Nat) (v : Value) (w : World) : Prop := ∃ (q : Nat) (us : List Value), v = .pointer (some ⟨q, 0, none⟩) ∧ N ≤ q ∧ w.heap[q]? = some (.cells us.toArray T (0, 0)) ∧ us.length = n ∧ NoB us

section
variable {N n : Nat} {T : TypeId} {v : Value} {x y : World}
theorem GrN.refl (N : Nat) (T : TypeId) (x : World) : GrN N T x x := ⟨Nat.le_refl _, fun _ _ => .inl rfl⟩
theorem GrN.below (h : Below x.heap.size x y) : GrN N T x y := ⟨h.size, fun k hk => .inl (h.block k hk)⟩
theorem GrN.row {q : Nat} {us us' : List Value} (hq : N ≤ q) (h : x.heap[q]? = some (.cells us.toArray T (0, 0))) (h' : y.heap[q]? = some (.cells us'.toArray T (0, 0))) (hl : us'.length = us.length) (hu : NoB us) (hu' : NoB us') (hs : x.heap.size ≤ y.heap.size) (ho : ∀ k, k ≠ q → y.heap[k]? = x.heap[k]?) : GrN N T x y :=
  ⟨hs, fun k _ => by
    by_cases e : k = q
    · subst e; exact .inr ⟨hq, us, us', h, h', hl, hu, hu'⟩
    · exact .inl (ho k e)⟩
theorem TPtr.grN (h : TPtr N T n v x) (hg : GrN N T x y) : TPtr N T n v y := by
  obtain ⟨q, us, rfl, h1, h2, h3, h4⟩ := h
  rcases hg.2 q (Array.getElem?_eq_some_iff.1 h2).1 with e | ⟨_, us1, us', e1, e2, e3, e4, e5⟩
  · exact ⟨q, us, rfl, h1, e.trans h2, h3, h4⟩
  · rw [h2] at e1; injection e1 with e1
    injection e1 with e1
    have : us = us1 := by simpa using e1
    subst this; exact ⟨q, us', rfl, h1, e2, e3.trans h3, e5⟩
theorem Rd.grN {A : Option Addr} {m c : Nat} {l : List UInt8} (h : Rd x A m c l) (hg : GrN N T x y) : Rd y A m c l :=
  ⟨h.len, h.cap, h.big, fun hn => by
    obtain ⟨b, off, rfl, hb, hc⟩ := h.at_ hn; refine ⟨b, off, rfl, Nat.lt_of_lt_of_le hb hg.1, fun j z hz => ?_⟩
    rcases hg.2 b hb with e | ⟨_, us, us', e1, _, _, e4, _⟩
    · exact (World.cell?_of_block (w := x) (a := ⟨b, off + j, none⟩) e).trans (hc j z hz)
    · exfalso
      have := hc j z hz; rw [cell_of_cells e1] at this; simp only [List.getElem?_toArray] at this; exact e4 _ (List.mem_of_getElem? this) _ rfl⟩
/-- cells of old blocks -/
theorem GrN.old {p : Addr} (hg : GrN N T x y) (hp : p.block < N) (hx : p.block < x.heap.size) : y.cell? p = x.cell? p := by
  rcases hg.2 p.block hx with e | ⟨e, _⟩
  · exact World.cell?_of_block e
  · omega
end
/-- what holds while the region goes on: at the end x's block holds what was to be stored -/
def CallI (N sq js : Nat) (G : Nat → World → Prop) (w0 : World) (a : Act) (L : Free.Done) (w : World) : Prop :=
  Below N w0 w ∧ (L js = true → ∃ q, slt a sq = .pointer (some ⟨q, 0, none⟩) ∧ N ≤ q ∧ G q w)
theorem CallI.other {N sq js : Nat} {G : Nat → World → Prop} {w0 w : World} {a : Act} {L : Free.Done} (h : CallI N sq js G w0 a L w) {d : Nat} {v : Value} {i : Nat} (hd : sq ≠ d) (hi : js ≠ i) : CallI N sq js G w0 (a.put (some d) v) (Free.upd L i) w :=
  ⟨h.1, fun hj => by
    rw [upd_ne hi] at hj; obtain ⟨q, h1, h2, h3⟩ := h.2 hj; exact ⟨q, by rw [slt_put hd]; exact h1, h2, h3⟩⟩
/-- ahead of the store -/
theorem CallI.ahead {N sq js : Nat} {G : Nat → World → Prop} {w0 w w' : World} {a a' : Act} {L L' : Free.Done} (h : CallI N sq js G w0 a L w) (hj : L' js = false) (hb : Below N w w') : CallI N sq js G w0 a' L' w' :=
  ⟨h.1.trans hb, fun e => by rw [hj] at e; cases e⟩
end Go.Proofs.Ytcnlgcmooegfkaa
