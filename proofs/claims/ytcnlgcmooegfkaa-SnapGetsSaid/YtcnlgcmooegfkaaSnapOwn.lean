/-
  ROWS OF THE CALL's OWN THAT READ AS LISTS: counters, messages, marks.
-/
import Derived.Test.YtcnlgcmooegfkaaSnapParse
namespace Go.Proofs.Ytcnlgcmooegfkaa
open Go.RowKit Mg Sn

/-- the blocks from B on that are of no row of type X are as they were -/
structure SameX (X : TypeId) (B : Nat) (w w' : World) : Prop where
  size : w.heap.size ≤ w'.heap.size
  block : ∀ (k : Nat) (cur : Array Value) (T : TypeId), B ≤ k → w.heap[k]? = some (.cells cur T (0, 0)) → T ≠ X → w'.heap[k]? = w.heap[k]?
section
variable {X T : TypeId} {B B' : Nat} {w w' w'' : World}
theorem SameX.of_kept {S : Nat → Prop} (h : Kept S w w') (hS : ∀ k, S k → k < B) : SameX X B w w' :=
  ⟨h.size, fun k cur T hB hk _ => h.block k (Array.getElem?_eq_some_iff.1 hk).1 fun hs => by have := hS k hs; omega⟩
theorem SameX.of_below (h : Below w.heap.size w w') : SameX X B w w' := ⟨h.size, fun k _ _ _ hk _ => h.block k (Array.getElem?_eq_some_iff.1 hk).1⟩
theorem SameX.trans (h : SameX X B w w') (k : SameX X B w' w'') : SameX X B w w'' :=
  ⟨Nat.le_trans h.size k.size, fun i cur T hB hi hT => by
    have h1 := h.block i cur T hB hi hT; exact (k.block i cur T hB (h1.trans hi) hT).trans h1⟩
theorem own_type' {e : TypeId} {size : Nat} {v : Value} {n : Nat} {xs : List Value} (h : w.ownsRow B e size v n xs) {k : Nat} (hk : v.ownBlock = some k) : ∃ cur, w.heap[k]? = some (.cells cur e (0, 0)) := by
  rcases h.2 with ⟨rfl, _⟩ | ⟨g, cap, cur, rfl, _, hg, _⟩
  · simp [Value.ownBlock] at hk
  · simp [Value.ownBlock] at hk; subst hk; exact ⟨cur, hg⟩
theorem SameX.of_grown {size : Nat} {v : Value} {n : Nat} {xs : List Value} (h : w.ownsRow B X size v n xs) (hg : w.grownBy w' v.ownBlock) : SameX X B' w w' :=
  ⟨hg.size, fun k cur T _ hk hT => hg.block k (Array.getElem?_eq_some_iff.1 hk).1 fun e => by
    obtain ⟨c1, h1⟩ := own_type' h e.symm; rw [hk] at h1; injection h1 with h1
    injection h1 with _ h1
    exact hT h1⟩
theorem own_sameX {size : Nat} {v : Value} {n : Nat} {xs : List Value} (hT : T ≠ X) (h : w.ownsRow B T size v n xs) (hs : SameX X B w w') : w'.ownsRow B T size v n xs :=
  row_keep h fun k hk => by
    obtain ⟨cur, hc⟩ := own_type' h hk; exact hs.block k cur T (h.lt k hk).1 hc hT
theorem Sl.sameX {v : Value} {n : Nat} {xs : List Value} (hT : T ≠ X) (h : Sl w B T v n xs) (hs : SameX X B w w') : Sl w' B T v n xs :=
  h.kept fun k hk => by
    obtain ⟨cur, hc⟩ := h.type k hk; exact hs.block k cur T (h.lt k hk).1 hc hT
end
/-- an element's reading stays where the blocks of no row of type X stay -/
def StaysX {α : Type} (E : ElP α) (X : TypeId) : Prop := ∀ (w w' : World) (B : Nat) (x : α) (cs : List Value), SameX X B w w' → E w B x cs → E w' B x cs
/-- the call owns the row, which reads as l -/
def OwnE {α : Type} (E : ElP α) (size : Nat) (T : TypeId) (w : World) (B : Nat) (v : Value) (l : List α) : Prop :=
  ∃ xs, w.ownsRow B T size v l.length xs ∧ ∀ (j : Nat) (x : α), l[j]? = some x → ∃ cs, E w B x cs ∧ cs.length = size ∧ ∀ (i : Nat) (u : Value), cs[i]? = some u → xs[j * size + i]? = some u
section
variable {α : Type} {E : ElP α} {size : Nat} {T X : TypeId} {w w' : World} {B : Nat} {v v' : Value} {l : List α}
theorem OwnE.nil (w : World) (B : Nat) : OwnE E size T w B (.slice none 0 0) [] := ⟨[], World.ownsRow_nil _ _ _ _, fun j x h => by simp at h⟩
theorem OwnE.sameX (hE : StaysX E X) (hT : T ≠ X) (h : OwnE E size T w B v l) (hs : SameX X B w w') : OwnE E size T w' B v l := by
  obtain ⟨xs, h1, h2⟩ := h; refine ⟨xs, own_sameX hT h1 hs, fun j x hj => ?_⟩; obtain ⟨cs, h3, h4⟩ := h2 j x hj; exact ⟨cs, hE _ _ _ _ _ hs h3, h4⟩
theorem OwnE.form (h : OwnE E size T w B v l) : ∃ A c, v = .slice A l.length c := by
  obtain ⟨xs, h1, _⟩ := h
  rcases h1.2 with ⟨rfl, h0⟩ | ⟨g, cap, cur, rfl, _⟩
  · exact ⟨none, 0, by rw [h0]⟩
  · exact ⟨_, _, rfl⟩
theorem OwnE.lt (h : OwnE E size T w B v l) : ∀ k, v.ownBlock = some k → B ≤ k ∧ k < w.heap.size := by
  obtain ⟨xs, h1, _⟩ := h; exact h1.lt
/-- one more -/
theorem OwnE.snoc {xs : List Value} {x : α} {cs : List Value} (hE : StaysX E T) (h1 : w.ownsRow B T size v l.length xs) (h2 : ∀ (j : Nat) (x : α), l[j]? = some x → ∃ cs, E w B x cs ∧ cs.length = size ∧ ∀ (i : Nat) (u : Value), cs[i]? = some u → xs[j * size + i]? = some u)
    (hx : E w B x cs) (hc : cs.length = size) (hg : w.grownBy w' v.ownBlock) (ho : w'.ownsRow B T size v' (l.length + 1) (xs ++ cs)) : OwnE E size T w' B v' (l ++ [x]) := by
  have hs : SameX T B w w' := SameX.of_grown h1 hg; have hxl : xs.length = l.length * size := h1.1; refine ⟨xs ++ cs, by rw [List.length_append]; exact ho, fun j q hj => ?_⟩; rw [List.getElem?_append] at hj
  split at hj
  · rename_i hlt
    obtain ⟨cs', h3, h4, h5⟩ := h2 j q hj; refine ⟨cs', hE _ _ _ _ _ hs h3, h4, fun i u hu => ?_⟩; have := h5 i u hu; rw [List.getElem?_append_left (List.getElem?_eq_some_iff.1 this).1]; exact this
  · rename_i hge
    have hj0 : j - l.length = 0 := by
      have := (List.getElem?_eq_some_iff.1 hj).1; simp at this; omega
    rw [hj0] at hj; obtain rfl : x = q := by simpa using hj
    have hjl : j = l.length := by omega
    refine ⟨cs, hE _ _ _ _ _ hs hx, hc, fun i u hu => ?_⟩; rw [List.getElem?_append_right (by rw [hxl, hjl]; omega), hxl, hjl]; rw [show l.length * size + i - l.length * size = i by omega]; exact hu
/-- it is read -/
theorem OwnE.rd {E' : ElP α} {A : Option Addr} {n c : Nat} (hE : ∀ x cs, E w B x cs → E' w B x cs) (h : OwnE E size T w B (.slice A n c) l) (hb : n ≤ 281474976710656) : RdE E' size w B A n c l := by
  obtain ⟨xs, h1, h2⟩ := h; have hn : l.length = n := by
    rcases h1.2 with ⟨hv, h0⟩ | ⟨g, cap, cur, hv, _⟩
    · injection hv with _ h3 _; omega
    · injection hv with _ h3 _; omega
  rw [hn] at h1; refine ⟨hn, ?_, hb, fun h0 => ?_⟩
  · rcases h1.2 with ⟨hv, h0⟩ | ⟨g, cap, cur, hv, _, _, hc, _⟩
    · injection hv with _ h3 h4; omega
    · injection hv with _ h3 h4; omega
  · rcases h1.2 with ⟨hv, h3⟩ | ⟨g, cap, cur, hv, hB, hg, hc, _, hsz, ht⟩
    · omega
    · injection hv with e1 e2 e3
      subst e1 e3; refine ⟨g, 0, rfl, hB, (Array.getElem?_eq_some_iff.1 hg).1, fun j x hj => ?_⟩; obtain ⟨cs, h3, h4, h5⟩ := h2 j x hj; refine ⟨cs, hE _ _ h3, h4, fun i u hu => ?_⟩; have hk := h1.cells (g := g) rfl (j * size + i) u (h5 i u hu); rw [add_none] at hk; rw [Nat.add_assoc]; exact hk
end
/-- messages, marks, with their data in memory of the call's own -/
def EMsO : ElP Ms := fun w B x cs => ∃ A c, cs = [.int .i64 x.i.o, .int .i64 x.i.d, .int .i64 x.i.e, .int .i64 x.i.c, .slice A x.l.length c] ∧ Sl w B 5 (.slice A x.l.length c) x.l.length (bs x.l) ∧ x.l.length ≤ 281474976710656
def EMkO : ElP Mk := fun w B x cs => ∃ A c, cs = [.int .i64 x.o, .int .i64 x.e, .int .i64 x.u, .slice A x.m.length c] ∧ w.ownsRow B 3 1 (.slice A x.m.length c) x.m.length (is64 x.m) ∧ x.m.length ≤ 281474976710656
theorem staysX_nx (X : TypeId) : StaysX ENx X := fun _ _ _ _ _ _ h => h
theorem staysX_ms {X : TypeId} (hX : 5 ≠ X) : StaysX EMsO X := fun _ _ _ _ _ hs ⟨A, c, e, h, hb⟩ => ⟨A, c, e, h.sameX hX hs, hb⟩
theorem staysX_mk {X : TypeId} (hX : 3 ≠ X) : StaysX EMkO X := fun _ _ _ _ _ hs ⟨A, c, e, h, hb⟩ => ⟨A, c, e, own_sameX hX h hs, hb⟩
theorem ms_of_own {w : World} {B : Nat} (x : Ms) (cs : List Value) (h : EMsO w B x cs) : EMs w B x cs := by
  obtain ⟨A, c, e, h, hb⟩ := h; refine ⟨A, c, e, h.rd hb, fun hn => ?_⟩; obtain ⟨g, off, hA, hB, _⟩ := h.cell hn; exact ⟨g, off, hA, hB⟩
theorem ints_of_own {w : World} {B : Nat} {A : Option Addr} {n c : Nat} {l : List Int} (h : w.ownsRow B 3 1 (.slice A n c) n (is64 l)) (hb : n ≤ 281474976710656) : RdE EInt 1 w B A n c l := by
  have hl : l.length = n := by have := h.1; simp [is64] at this; omega
  refine OwnE.rd (E := EInt) (T := 3) (fun _ _ h => h) ⟨is64 l, by rw [hl]; exact h, fun j x hj => ⟨[.int .i64 x], rfl, rfl, fun i u hu => ?_⟩⟩ hb
  match i, hu with
  | 0, hu =>
    rw [Nat.mul_one, Nat.add_zero]; simp [is64, hj]
    simpa using hu
theorem mk_of_own {w : World} {B : Nat} (x : Mk) (cs : List Value) (h : EMkO w B x cs) : EMk w B x cs := by
  obtain ⟨A, c, e, h, hb⟩ := h; exact ⟨A, c, e, ints_of_own h hb⟩

theorem elemNx : ElemOf Try.prog 22 50 (.agg #[.int .i64 0, .int .i64 0]) 2 16 := ⟨Try.underlying22, by kernel_rfl, rfl, by decide, by decide⟩
theorem elemMs : ElemOf Try.prog 23 54 (.agg #[.int .i64 0, .int .i64 0, .int .i64 0, .int .i64 0, .slice none 0 0]) 5 56 := ⟨Try.underlying23, by kernel_rfl, rfl, by decide, by decide⟩
theorem elemMk : ElemOf Try.prog 24 58 (.agg #[.int .i64 0, .int .i64 0, .int .i64 0, .slice none 0 0]) 4 48 := ⟨Try.underlying24, by kernel_rfl, rfl, by decide, by decide⟩
end Go.Proofs.Ytcnlgcmooegfkaa
