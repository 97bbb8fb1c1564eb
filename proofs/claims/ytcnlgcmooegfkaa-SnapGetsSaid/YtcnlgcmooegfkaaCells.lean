/-
  SLICES OF WHATEVER ELEMENTS, BY THEIR CELLS: readings, cuts, sources of an append.
-/
import Derived.Test.YtcnlgcmooegfkaaKept
namespace Go.Proofs.Ytcnlgcmooegfkaa
open Go.RowKit

/-- the slice value '.slice A n c', elements of 'size' cells, reads as the cells xs -/
structure RdC (w : World) (A : Option Addr) (n c size : Nat) (xs : List Value) : Prop where
  len : xs.length = n * size
  cap : n ≤ c
  big : n ≤ 281474976710656
  at_ : 0 < n → ∃ b off, A = some ⟨b, off, none⟩ ∧ b < w.heap.size ∧ ∀ j u, xs[j]? = some u → w.cell? ⟨b, off + j, none⟩ = some u

section
variable {w w' : World} {A : Option Addr} {n c size : Nat} {xs : List Value}
theorem RdC.stays (h : RdC w A n c size xs) (hs : Stays w w') : RdC w' A n c size xs :=
  ⟨h.len, h.cap, h.big, fun hn => by
    obtain ⟨b, off, e, hb, hc⟩ := h.at_ hn; exact ⟨b, off, e, Nat.lt_of_lt_of_le hb hs.1, fun j x hx => (hs.2 ⟨b, off + j, none⟩ hb).trans (hc j x hx)⟩⟩
theorem RdC.below (h : RdC w A n c size xs) (hb : Below w.heap.size w w') : RdC w' A n c size xs := h.stays (.below hb)
theorem RdC.keep (h : RdC w A n c size xs) (hs : w.heap.size ≤ w'.heap.size) (hk : ∀ b off, A = some ⟨b, off, none⟩ → b < w.heap.size → w'.heap[b]? = w.heap[b]?) : RdC w' A n c size xs :=
  ⟨h.len, h.cap, h.big, fun hn => by
    obtain ⟨b, off, rfl, hb, hc⟩ := h.at_ hn; exact ⟨b, off, rfl, by omega, fun j x hx => (World.cell?_of_block (w := w) (a := ⟨b, off + j, none⟩) (hk b off rfl hb)).trans (hc j x hx)⟩⟩
theorem RdC.nil (w : World) (A : Option Addr) (c size : Nat) : RdC w A 0 c size [] := ⟨by simp, Nat.zero_le _, by omega, fun h => absurd h (by omega)⟩
theorem RdC.take (h : RdC w A n c size xs) {k : Nat} (hk : k ≤ n) : RdC w A k c size (xs.take (k * size)) :=
  ⟨by rw [List.length_take, h.len]; exact Nat.min_eq_left (Nat.mul_le_mul_right _ hk), Nat.le_trans hk h.cap, Nat.le_trans hk h.big, fun hn => by
    obtain ⟨b, off, e, hb, hc⟩ := h.at_ (by omega); refine ⟨b, off, e, hb, fun j x hx => hc j x ?_⟩; rw [List.getElem?_take] at hx
    split at hx
    · exact hx
    · cases hx⟩
theorem RdC.drop (h : RdC w A n c size xs) {k : Nat} (hk : k ≤ n) : RdC w (if c = k then A else A.map (·.add (k * size))) (n - k) (c - k) size (xs.drop (k * size)) :=
  ⟨by rw [List.length_drop, h.len, Nat.sub_mul], by have := h.cap; omega, by have := h.big; omega, fun hn => by
    obtain ⟨b, off, rfl, hb, hc⟩ := h.at_ (by omega); have := h.cap; rw [if_neg (by omega)]; refine ⟨b, off + k * size, ?_, hb, fun j x hx => ?_⟩
    · simp [Addr.add]
    · rw [Nat.add_assoc]; exact hc (k * size + j) x (by rw [← hx, List.getElem?_drop])⟩
theorem RdC.src (h : RdC w A n c size xs) (h1 : ∀ u ∈ xs, u.oneCell' = true) : Src w A n size xs :=
  ⟨h.len, fun hn => by
    obtain ⟨b, off, e, _, hc⟩ := h.at_ hn; exact ⟨_, e, fun j u hu => by rw [add_none]; exact hc j u hu⟩, h1⟩
/-- an element's cells -/
theorem RdC.at' (h : RdC w A n c size xs) {k : Nat} (hk : k < n) : ∃ b off, A = some ⟨b, off, none⟩ ∧ b < w.heap.size ∧ ∀ j u, xs[k * size + j]? = some u → w.cell? ⟨b, off + k * size + j, none⟩ = some u := by
  obtain ⟨b, off, e, hb, hc⟩ := h.at_ (by omega); exact ⟨b, off, e, hb, fun j u hu => by rw [Nat.add_assoc]; exact hc _ u hu⟩
theorem Rd.cells {l : List UInt8} (h : Rd w A n c l) : RdC w A n c 1 (bs l) :=
  ⟨by rw [bs_len, h.len, Nat.mul_one], h.cap, h.big, fun hn => by
    obtain ⟨b, off, e, hb, hc⟩ := h.at_ hn; refine ⟨b, off, e, hb, fun j u hu => ?_⟩; simp only [bs, List.getElem?_map, Option.map_eq_some_iff] at hu; obtain ⟨x, hx, rfl⟩ := hu; exact hc j x hx⟩

/-- a row of the call's own is read -/
theorem RdC.of_row {B : Nat} {e : TypeId} (h : w.ownsRow B e size (.slice A n c) n xs) (hb : n ≤ 281474976710656) : RdC w A n c size xs := by
  rcases h.2 with ⟨hv, h0⟩ | ⟨g, cap, cur, hv, hB, hg, hc, _, hsz, ht⟩
  · injection hv with h1 h2 h3
    subst h1 h2 h3; have : xs = [] := List.eq_nil_of_length_eq_zero (by rw [h.1]; simp); subst this; exact RdC.nil _ _ _ _
  · injection hv with h1 h2 h3
    subst h1 h3; refine ⟨h.1, hc, hb, fun _ => ⟨g, 0, rfl, (Array.getElem?_eq_some_iff.1 hg).1, fun j u hu => ?_⟩⟩; have hk := h.cells (g := g) rfl j u hu
    rwa [add_none] at hk
end
theorem row_form {w : World} {B : Nat} {e : TypeId} {size : Nat} {v : Value} {n : Nat} {xs : List Value} (h : w.ownsRow B e size v n xs) : ∃ A c, v = .slice A n c := by
  rcases h.2 with ⟨rfl, h0⟩ | ⟨g, cap, cur, rfl, _⟩
  · rw [h0]; exact ⟨none, 0, rfl⟩
  · exact ⟨_, _, rfl⟩

/-- two results, the first a struct's cells -/
theorem results_cell2 {P : Program} {fn : Func} {p u : Tmp} {ty : TypeId} (h : fn.results = #[.cell p ty, .tmp u]) (tmps : Array Value) (w : World) (g : Nat) (t : TypeId) (cs : Array Value) (fr : Nat × Nat) (d : TypeDesc)
    (hp : tmps.getD p undef = .pointer (some ⟨g, 0, none⟩)) (hg : w.heap[g]? = some (.cells cs t fr))
    (hu : P.underlying ty = some d) (hd : (match d with | .struct _ | .array _ _ => true | _ => false) = true) (hi : (P.info? ty).map (·.size) = some cs.size) :
    (results fn tmps).run P w = .ok (.tuple #[.agg cs, tmps.getD u undef]) w := by
  have hp' : tmps[p]?.getD undef = .pointer (some ⟨g, 0, none⟩) := by simpa using hp
  simp [results, h, hp', asAddr, run_loadVar_row w g t ty cs fr d hg hu hd hi]
end Go.Proofs.Ytcnlgcmooegfkaa
