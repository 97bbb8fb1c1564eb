/-
  copy INTO A ROW THAT IS KNOWN WHOLE: what it leaves, as a row and a frame; rows that 'make' lays.
-/
import Derived.Test.YtcnlgcmooegfkaaCells
import Derived.Laws.CopyOwn
import Derived.Deep.OwnRows
import Derived.StillTactics
import Derived.StillTailTactics
import Derived.BigQuiet
import Derived.Deep.QuietTactic
namespace Go.Proofs.Ytcnlgcmooegfkaa
open Go.RowKit

theorem grownBy_setRow (w : World) (g : Nat) (cs : Array Value) : w.grownBy (w.setRow g cs) (some g) :=
  ⟨rfl, rfl, rfl, by simp [World.setRow], fun k _ hne => setRow_other w g k cs (by intro h; exact hne (by rw [h]))⟩

theorem wpList_copyg {P : Program} {w : World} {ops : Array Oper} {rest : List Oper} {o : Oper} {a : Act} {Q : Exit → Act → World → Prop} (hgd : o.guard = none) (d s : Operand) (dT sT : TypeId)
    (ho : o.op = .call { callee := .builtin .copy, args := #[d, s], argTypes := #[dT, sT] }) (elem : TypeId) (hu : P.underlying dT = some (.slice elem)) (hsz : (P.info? elem).map (·.size) = some 1)
    (dp sp : Option Addr) (dLen dCap sLen sCap : Nat) (hd : a.eval d = .slice dp dLen dCap) (hs : a.eval s = .slice sp sLen sCap)
    (g off : Nat) (cur : List Value) (t : TypeId) (hg : w.heap[g]? = some (.cells cur.toArray t (0, 0))) (cs : List Value) (hn : cs.length = Nat.min sLen dLen)
    (hpos : 0 < cs.length → dp = some ⟨g, off, none⟩ ∧ ∃ ad, sp = some ad ∧ ∀ j v, cs[j]? = some v → w.cell? (ad.add j) = some v)
    (hfit : off + cs.length ≤ cur.length) (h1 : ∀ v ∈ cs, v.oneCell' = true)
    (h : ∀ w', Hid (w'.heap[g]? = some (.cells (splice cur off cs).toArray t (0, 0))) → Hid (w.grownBy w' (some g)) → wpList P ops Q rest (a.put o.dst (goInt cs.length)) w') :
    wpList P ops Q (o :: rest) a w := by
  by_cases h0 : cs.length = 0
  · obtain rfl : cs = [] := List.eq_nil_of_length_eq_zero h0; refine wpList_copy_nothing hgd d s dT sT ho elem hu hsz dp sp dLen dCap sLen sCap hd hs (by simpa using hn.symm) ?_; exact h w (show _ = _ by simpa [splice] using hg) (show World.grownBy _ _ _ from World.grownBy.refl w _)
  · obtain ⟨rfl, ad, rfl, hsrc⟩ := hpos (by omega); refine wpList_copy_own hgd d s dT sT ho elem hu hsz g off dLen dCap ad sLen sCap hd hs cur.toArray t hg cs hn hsrc (by simpa using hfit) h1 ?_; exact h _ (show _ = _ by simpa [splice] using setRow_heap w g _ _ t _ hg) (show World.grownBy _ _ _ from grownBy_setRow w g _)

/-- a row that 'make' has laid -/
theorem made_cells (z : Value) (n : Nat) : madeCells #[z] n = (List.replicate n z).toArray := by
  apply Array.ext
  · simp [madeCells]
  · intro i h1 h2; simp [madeCells, Nat.mod_one]

theorem splice_two {α : Type} (Z X Y : List α) (k : Nat) (hk : X.length = k) (hZ : Z.length = k + Y.length) : splice (splice Z 0 X) k Y = X ++ Y := by
  subst hk; simp only [splice, List.take_zero, List.nil_append, Nat.zero_add]; rw [List.take_left' rfl, List.drop_of_length_le (by simp; omega), List.append_nil]
theorem splice_gap {α : Type} (Z X Y : List α) (z : α) (k : Nat) (hk : X.length = k) (hZ : Z.length = k + 1 + Y.length) : (splice (splice Z 0 X) (k + 1) Y).set k z = X ++ z :: Y := by
  subst hk; simp only [splice, List.take_zero, List.nil_append, Nat.zero_add]; have e1 : (X ++ Z.drop X.length).take (X.length + 1) = X ++ (Z.drop X.length).take 1 := by rw [List.take_append, List.take_of_length_le (by omega)]; simp
  obtain ⟨y, Z', hy⟩ : ∃ y Z', Z.drop X.length = y :: Z' := by
    cases h : Z.drop X.length with
    | nil => have := congrArg List.length h; simp at this; omega
    | cons y Z' => exact ⟨y, Z', rfl⟩
  have hl : Z'.length = Y.length := by have := congrArg List.length hy; simp at this; omega
  rw [e1, hy, List.drop_of_length_le (by simp; omega)]; simp

/-- the row of a slice value that is the call's own, written out -/
theorem Sl.of_heap {w : World} {B g : Nat} {e : TypeId} {n : Nat} {xs : List Value} (h : w.heap[g]? = some (.cells xs.toArray e (0, 0))) (hB : B ≤ g) (hn : xs.length = n) (hm : n ≤ maxLen) : Sl w B e (.slice (some ⟨g, 0, none⟩) n n) n xs := by
  refine ⟨hn, .inr ⟨g, 0, n, xs.toArray, rfl, hB, h, Nat.le_refl _, hm, by simp [hn], ?_⟩⟩; simp [← hn]


/-- a row of n values z that was laid behind world w -/
def Fresh (w : World) (e : TypeId) (z : Value) (n : Nat) (v : Value) (w' : World) : Prop :=
  ∃ g, v = .slice (some ⟨g, 0, none⟩) n n ∧ w.heap.size ≤ g ∧ w'.heap[g]? = some (.cells (List.replicate n z).toArray e (0, 0))
theorem Fresh.mono {w : World} {e : TypeId} {z : Value} {n : Nat} (v : Value) (w1 w2 : World) (h : Fresh w e z n v w1) (hb : Below w1.heap.size w1 w2) : Fresh w e z n v w2 := by
  obtain ⟨g, rfl, h1, h2⟩ := h; exact ⟨g, rfl, h1, (hb.block g (Array.getElem?_eq_some_iff.1 h2).1).trans h2⟩
theorem Fresh.made {w w1 : World} (e : TypeId) (z : Value) (n : Nat) (hs : w.heap.size ≤ w1.heap.size) : Fresh w e z n (.slice (some ⟨w1.heap.size, 0, none⟩) n n) (w1.alloc (.cells (madeCells #[z] n) e)) :=
  ⟨_, rfl, hs, by rw [heap_alloc_new, made_cells]⟩

theorem Sl.store {w : World} {B g off c n : Nat} {e : TypeId} {xs : List Value} (h : Sl w B e (.slice (some ⟨g, off, none⟩) n c) n xs) (i : Nat) (hi : i < n) (u : Value) : Sl (w.setCell ⟨g, off + i, none⟩ u) B e (.slice (some ⟨g, off, none⟩) n c) n (xs.set i u) := by
  refine ⟨by rw [List.length_set]; exact h.1, ?_⟩
  rcases h.2 with ⟨hv, h0⟩ | ⟨g', off', cap, cur, hv, hb, hg, hc, hm, hs, ht⟩
  · omega
  · injection hv with h1 h2 h3
    injection h1 with h1
    injection h1 with h1 h1'
    subst h1 h1' h3; refine .inr ⟨g, off, c, _, rfl, hb, heap_setCell_same w g (off + i) cur e u hg, hc, hm, by simpa using hs, ?_⟩; rw [← ht]
    apply List.ext_getElem?
    intro j; simp only [Array.toList_setIfInBounds, List.getElem?_take, List.getElem?_drop, List.getElem?_set, List.length_take, List.length_drop]
    by_cases hj : j = i
    · subst hj; have hl : off + j < cur.toList.length := by simp; omega
      have hl2 : j < min n (cur.toList.length - off) := by omega
      simp only [if_true, hl, hl2, hi]
    · have h1 : ¬ (off + i = off + j) := by omega
      have h2 : ¬ (i = j) := by omega
      simp only [h1, h2, if_false]
theorem Sl.free {w : World} {B g off c n : Nat} {e : TypeId} {xs : List Value} (h : Sl w B e (.slice (some ⟨g, off, none⟩) n c) n xs) (j : Nat) : w.frozen? ⟨g, j, none⟩ = false := by
  rcases h.2 with ⟨hv, h0⟩ | ⟨g', off', cap, cur, hv, hb, hg, r⟩
  · cases hv
  · injection hv with h1 h2 h3
    injection h1 with h1
    injection h1 with h1 h1'
    subst h1 h1' h3; exact frozen_of_row w g j cur e hg

theorem Sl.cells {w : World} {B : Nat} {e : TypeId} {A : Option Addr} {n c : Nat} {xs : List Value} (h : Sl w B e (.slice A n c) n xs) (hb : n ≤ 281474976710656) : RdC w A n c 1 xs := by
  obtain ⟨A', c', hv, hc⟩ := h.form; injection hv with h1 h2 h3
  subst h1 h3; refine ⟨by rw [h.1, Nat.mul_one], hc, hb, fun hn => ?_⟩; obtain ⟨g, off, rfl, _, hg, hcell⟩ := h.cell hn; exact ⟨g, off, rfl, hg, hcell⟩
theorem ty_ne {w : World} {k k' : Nat} {c c' : Array Value} {e e' : TypeId} (h : w.heap[k]? = some (.cells c e (0, 0))) (h' : w.heap[k']? = some (.cells c' e' (0, 0))) (he : e ≠ e') : k ≠ k' := by
  rintro rfl; rw [h] at h'; injection h' with h'
  injection h' with _ h'
  exact he h'
theorem RdC.take1 {w : World} {A : Option Addr} {n c : Nat} {xs : List Value} (h : RdC w A n c 1 xs) {k : Nat} (hk : k ≤ n) : RdC w A k c 1 (xs.take k) := by
  have := h.take hk
  rwa [Nat.mul_one] at this
theorem RdC.drop1 {w : World} {A : Option Addr} {n c : Nat} {xs : List Value} (h : RdC w A n c 1 xs) {k : Nat} (hk : k ≤ n) : RdC w (if c = k then A else A.map (·.add k)) (n - k) (c - k) 1 (xs.drop k) := by
  have := h.drop hk
  simpa only [Nat.mul_one] using this

/-- 'copy(p[off:], src)': all of a source that is read goes over into a row that is known whole -/
theorem wpList_copyr {P : Program} {w : World} {ops : Array Oper} {rest : List Oper} {o : Oper} {a : Act} {Q : Exit → Act → World → Prop} (hgd : o.guard = none) (d s : Operand) (T : TypeId)
    (ho : o.op = .call { callee := .builtin .copy, args := #[d, s], argTypes := #[T, T] }) (elem : TypeId) (hu : P.underlying T = some (.slice elem)) (hsz : (P.info? elem).map (·.size) = some 1)
    {dp sp : Option Addr} {dLen dCap sLen sCap : Nat} (hd : a.eval d = .slice dp dLen dCap) (hs : a.eval s = .slice sp sLen sCap)
    (g off : Nat) (cur : List Value) (hg : w.heap[g]? = some (.cells cur.toArray elem (0, 0))) (xs : List Value) (hx : RdC w sp sLen sCap 1 xs) (h1 : ∀ v ∈ xs, v.oneCell' = true) (hle : sLen ≤ dLen)
    (hpos : 0 < sLen → dp = some ⟨g, off, none⟩) (hfit : off + sLen ≤ cur.length)
    (h : ∀ w', Hid (w'.heap[g]? = some (.cells (splice cur off xs).toArray elem (0, 0))) → Hid (w.grownBy w' (some g)) → wpList P ops Q rest (a.put o.dst (goInt sLen)) w') :
    wpList P ops Q (o :: rest) a w := by
  have hl : xs.length = sLen := by rw [hx.len, Nat.mul_one]
  subst hl; refine wpList_copyg hgd d s T T ho elem hu hsz dp sp dLen dCap _ sCap hd hs g off cur elem hg xs (Nat.min_eq_left hle).symm (fun h0 => ⟨hpos h0, ?_⟩) hfit h1 h; obtain ⟨b, o', e, _, hc⟩ := hx.at_ h0; exact ⟨_, e, fun j v hv => by rw [add_none]; exact hc j v hv⟩
end Go.Proofs.Ytcnlgcmooegfkaa
