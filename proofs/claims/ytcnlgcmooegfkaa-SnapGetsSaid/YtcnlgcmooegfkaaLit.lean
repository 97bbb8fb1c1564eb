/-
  'x := T{.., append([]byte{}, p...)}' OF A STRUCT x WHOSE ADDRESS IS TAKEN: a region that makes an empty row, appends to it, lays x's block and stores into it, in whatever order.
-/
import Derived.Test.YtcnlgcmooegfkaaCall
import Derived.Test.YtcnlgcmooegfkaaOwn
import Derived.Test.YtcnlgcmooegfkaaFlagB
namespace Go.Proofs.Ytcnlgcmooegfkaa
open Go.RowKit

/-- cells of one block stored one behind the other, from cell k on -/
def sets (q : Nat) : Nat → List Value → World → World
  | _, [], w => w
  | k, v :: r, w => sets q (k + 1) r (w.setCell ⟨q, k, none⟩ v)
theorem sets_heap {q : Nat} {T : TypeId} : ∀ (vs old pre : List Value) (w : World), w.heap[q]? = some (.cells (pre ++ old).toArray T (0, 0)) → old.length = vs.length → (sets q pre.length vs w).heap[q]? = some (.cells (pre ++ vs).toArray T (0, 0))
  | [], old, pre, w, h, hl => by
    have : old = [] := List.eq_nil_of_length_eq_zero hl; subst this; exact h
  | v :: r, [], pre, w, h, hl => by simp at hl
  | v :: r, o :: old, pre, w, h, hl => by
    have h1 := heap_setCell_same w q pre.length _ T v h; have e : (pre ++ o :: old).toArray.setIfInBounds pre.length v = ((pre ++ [v]) ++ old).toArray := by simp
    rw [e] at h1; have := sets_heap r old (pre ++ [v]) _ h1 (by simpa using hl)
    simpa [sets] using this
theorem sets_heap0 {q : Nat} {T : TypeId} {us vs : List Value} {w : World} (h : w.heap[q]? = some (.cells us.toArray T (0, 0))) (hl : us.length = vs.length) : (sets q 0 vs w).heap[q]? = some (.cells vs.toArray T (0, 0)) := by
  have := sets_heap vs us [] w (by simpa using h) hl
  simpa using this
theorem sets_other {q : Nat} : ∀ (vs : List Value) (k : Nat) (w : World) (j : Nat), j ≠ q → (sets q k vs w).heap[j]? = w.heap[j]?
  | [], _, _, _, _ => rfl
  | v :: r, k, w, j, h => (sets_other r (k + 1) _ j h).trans (heap_setCell_other w ⟨q, k, none⟩ j v h)
theorem sets_size {q : Nat} : ∀ (vs : List Value) (k : Nat) (w : World), (sets q k vs w).heap.size = w.heap.size
  | [], _, _ => rfl
  | _ :: r, k, _ => (sets_size r (k + 1) _).trans (by simp)
theorem sets_below {B q : Nat} {w0 : World} (hq : B ≤ q) : ∀ (vs : List Value) (k : Nat) (w : World), Below B w0 w → Below B w0 (sets q k vs w)
  | [], _, _, h => h
  | v :: r, k, _, h => sets_below hq r (k + 1) _ (h.setCell (p := ⟨q, k, none⟩) hq v)

/-- an append onto a row without room: nothing that was there is written -/
theorem run_appl {P : Program} (w : World) {t e : TypeId} {z : Value} {bytes : Nat} (hE : ElemOf P t e z 1 bytes) (ty : TypeId) {B b : Nat} {cur : Array Value} (hg : w.heap[b]? = some (.cells cur e (0, 0))) (hB : B ≤ b)
    {A : Option Addr} {m : Nat} (c : Nat) {news : List Value} (hs : Src w A m 1 news) (hb : m * bytes ≤ 140737488355328) :
    ∃ A' c' w', (Builtin.append_ #[t, t] ty #[.slice (some ⟨b, 0, none⟩) 0 0, .slice A m c]).run P w = .ok (.slice A' m c') w' ∧ Sl w' B e (.slice A' m c') m news ∧ Below w.heap.size w w' := by
  obtain ⟨i, hi, hz, hsz, hby⟩ := info_parts hE.info; have hnl : news.length = m := by have := hs.len; omega
  have hown : Sl w B e (.slice (some ⟨b, 0, none⟩) 0 0) 0 [] := ⟨rfl, .inr ⟨b, 0, 0, cur, rfl, hB, hg, Nat.le_refl _, by unfold maxLen; omega, by omega, rfl⟩⟩
  rcases Nat.eq_zero_or_pos m with h0 | h0
  · subst h0; have hn : news = [] := List.eq_nil_of_length_eq_zero hnl; subst hn; refine ⟨_, _, w, ?_, hown, Below.refl _ _⟩
    cases A with
    | none => simp [Builtin.append_, run_underlying hE.ht, sizeOf, typeInfo, hi, Builtin.lenOf, Builtin.firstCells, storeCells]
    | some ad =>
      have hf := run_firstCells_some (P := P) w 1 0 ad 0 c [] rfl (by intro j u hu; simp at hu); simp [Builtin.append_, run_underlying hE.ht, sizeOf, typeInfo, hi, Builtin.lenOf, hsz, hf, storeCells]
  · obtain ⟨ad, rfl, hc⟩ := hs.at_ h0; have h63 : 0 + m ≤ maxLen := by
      have := Nat.le_mul_of_pos_right m hE.wide; unfold maxLen; omega
    obtain ⟨v', w', hrun, r1, r2⟩ := run_append_arg_grows (P := P) w t ty e i z 1 bytes hE.ht hi hz hsz hby hE.zs (by omega) ⟨b, 0, none⟩ 0 0 [] rfl (by intro j u hu; simp at hu) ad m c news hs.len hc (by omega) h63 (by simpa using hb); have hsl := Sl.of_row r1; obtain ⟨A', c', rfl, _⟩ := hsl.form; simp only [Nat.zero_add, List.nil_append] at hrun hsl; have hlt := (Array.getElem?_eq_some_iff.1 hg).1; exact ⟨A', c', w', hrun, hsl.base fun k hk => by have := (hsl.lt k hk).1; omega, ⟨r2.os, r2.tape, r2.output, r2.size, fun k hk => r2.block k hk (by simp)⟩⟩

theorem lit4 {α : Type} {l : List α} (h : l.length = 4) : ∃ a b c d, l = [a, b, c, d] := by
  match l, h with
  | [a, b, c, d], _ => exact ⟨a, b, c, d, rfl⟩
theorem lit5 {α : Type} {l : List α} (h : l.length = 5) : ∃ a b c d e, l = [a, b, c, d, e] := by
  match l, h with
  | [a, b, c, d, e], _ => exact ⟨a, b, c, d, e, rfl⟩
theorem nob_nil : NoB [] := fun _ h => by cases h
theorem nob_int {us : List Value} (k : Int) (h : NoB us) : NoB (.int .i64 k :: us) := fun u hu x e => by
  rcases List.mem_cons.1 hu with rfl | hu
  · cases e
  · exact h u hu x e
theorem nob_slice {us : List Value} (A : Option Addr) (n c : Nat) (h : NoB us) : NoB (.slice A n c :: us) := fun u hu x e => by
  rcases List.mem_cons.1 hu with rfl | hu
  · cases e
  · exact h u hu x e
theorem nob_bool {us : List Value} (b : Bool) (h : NoB us) : NoB (.bool b :: us) := fun u hu x e => by
  rcases List.mem_cons.1 hu with rfl | hu
  · cases e
  · exact h u hu x e

/-- an empty row that a literal has laid -/
def TEmp (N : Nat) (E : TypeId) (v : Value) (w : World) : Prop := ∃ (b : Nat) (cur : Array Value), v = .slice (some ⟨b, 0, none⟩) 0 0 ∧ N ≤ b ∧ w.heap[b]? = some (.cells cur E (0, 0))
/-- a row of the call's own -/
def TSl (N : Nat) (E : TypeId) (n : Nat) (xs : List Value) (v : Value) (w : World) : Prop := ∃ (A : Option Addr) (c : Nat), v = .slice A n c ∧ Sl w N E (.slice A n c) n xs
/-- a struct's value, its last field such a row -/
def TAgg (N : Nat) (E : TypeId) (n : Nat) (xs : List Value) (pre : List Value) (v : Value) (w : World) : Prop := ∃ (A : Option Addr) (c : Nat), v = .agg (pre ++ [Value.slice A n c]).toArray ∧ Sl w N E (.slice A n c) n xs
/-- block q holds such a struct -/
def GLit (N : Nat) (E T : TypeId) (n : Nat) (xs : List Value) (pre : List Value) (q : Nat) (w : World) : Prop := ∃ (A : Option Addr) (c : Nat), w.heap[q]? = some (.cells (pre ++ [Value.slice A n c]).toArray T (0, 0)) ∧ Sl w N E (.slice A n c) n xs

section
variable {N n : Nat} {E T : TypeId} {xs pre : List Value} {v : Value} {x y : World}
theorem block_grN {b : Nat} {cur : Array Value} (hE : E ≠ T) (h : x.heap[b]? = some (.cells cur E (0, 0))) (hg : GrN N T x y) : y.heap[b]? = x.heap[b]? := by
  rcases hg.2 b (Array.getElem?_eq_some_iff.1 h).1 with e | ⟨_, us, us', e1, _⟩
  · exact e
  · rw [h] at e1; injection e1 with e1
    injection e1 with _ e1
    exact absurd e1 hE
theorem Sl.grN (hE : E ≠ T) (h : Sl x N E v n xs) (hg : GrN N T x y) : Sl y N E v n xs := by
  refine h.kept fun k hk => ?_
  obtain ⟨cur, hc⟩ := h.type k hk; exact block_grN hE hc hg
theorem TEmp.grN (hE : E ≠ T) (h : TEmp N E v x) (hg : GrN N T x y) : TEmp N E v y := by
  obtain ⟨b, cur, rfl, h1, h2⟩ := h; exact ⟨b, cur, rfl, h1, (block_grN hE h2 hg).trans h2⟩
theorem TSl.grN (hE : E ≠ T) (h : TSl N E n xs v x) (hg : GrN N T x y) : TSl N E n xs v y := by
  obtain ⟨A, c, rfl, h1⟩ := h; exact ⟨A, c, rfl, h1.grN hE hg⟩
theorem TAgg.grN (hE : E ≠ T) (h : TAgg N E n xs pre v x) (hg : GrN N T x y) : TAgg N E n xs pre v y := by
  obtain ⟨A, c, rfl, h1⟩ := h; exact ⟨A, c, rfl, h1.grN hE hg⟩
/-- the store into x's block -/
theorem lit_store {B q : Nat} {us vs : List Value} {w0 : World} (hq : N ≤ q) (hB : B ≤ q) (h : x.heap[q]? = some (.cells us.toArray T (0, 0))) (hl : us.length = vs.length) (hu : NoB us) (hv : NoB vs) (hb : Below B w0 x) :
    (sets q 0 vs x).heap[q]? = some (.cells vs.toArray T (0, 0)) ∧ GrN N T x (sets q 0 vs x) ∧ Below B w0 (sets q 0 vs x) := by
  have h1 := sets_heap0 h hl; exact ⟨h1, GrN.row hq h h1 hl.symm hu hv (by rw [sets_size]; exact Nat.le_refl _) (fun k hk => sets_other vs 0 x k hk), sets_below hB vs 0 x hb⟩
end
end Go.Proofs.Ytcnlgcmooegfkaa
