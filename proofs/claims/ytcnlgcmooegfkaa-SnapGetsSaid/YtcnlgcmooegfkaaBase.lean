/-
  WORDS FOR MEMORY: a slice value that reads as bytes, or as lists of bytes (nil, empty, cut or not), and how a reading is kept from world to world.
-/
import Derived.Test.YtcnlgcmooegfkaaRows
import Derived.WalkKit
import Derived.WalkSpells
import Derived.WalkLawsBesides
import Derived.Maps.AppendAt
import Derived.Deep.AppendLies
import Derived.Deep.Draws
import Derived.Lib.Hide
import Derived.Laws.IdiomStrings
namespace Go.Proofs.Ytcnlgcmooegfkaa
open Go.RowKit

/-- the cell of a byte -/
abbrev bv (x : UInt8) : Value := .int .u8 (x.toNat : Int)

/-- the slice value '.slice A n c' reads as the bytes l -/
structure Rd (w : World) (A : Option Addr) (n c : Nat) (l : List UInt8) : Prop where
  len : l.length = n
  cap : n ≤ c
  big : n ≤ 281474976710656
  at_ : 0 < n → ∃ b off, A = some ⟨b, off, none⟩ ∧ b < w.heap.size ∧ ∀ j x, l[j]? = some x → w.cell? ⟨b, off + j, none⟩ = some (bv x)

/-- the slice value '.slice A n c' reads as lists of bytes -/
structure RdL (w : World) (A : Option Addr) (n c : Nat) (ls : List (List UInt8)) : Prop where
  len : ls.length = n
  cap : n ≤ c
  big : n ≤ 281474976710656
  at_ : 0 < n → ∃ b off, A = some ⟨b, off, none⟩ ∧ b < w.heap.size ∧ ∀ j l, ls[j]? = some l → ∃ A' n' c', w.cell? ⟨b, off + j, none⟩ = some (.slice A' n' c') ∧ Rd w A' n' c' l

/-- what was there is there, as it was -/
def Stays (w w' : World) : Prop := w.heap.size ≤ w'.heap.size ∧ ∀ p : Addr, p.block < w.heap.size → w'.cell? p = w.cell? p
theorem Stays.refl (w : World) : Stays w w := ⟨Nat.le_refl _, fun _ _ => rfl⟩
theorem Stays.trans {a b c : World} (h : Stays a b) (k : Stays b c) : Stays a c :=
  ⟨Nat.le_trans h.1 k.1, fun p hp => (k.2 p (Nat.lt_of_lt_of_le hp h.1)).trans (h.2 p hp)⟩
theorem Stays.below {w w' : World} (h : Below w.heap.size w w') : Stays w w' := ⟨h.size, fun _ hp => h.cell hp⟩
theorem Stays.alloc (w : World) (o : Obj) : Stays w (w.alloc o) := .below ((Below.refl _ _).alloc (Nat.le_refl _) o)
theorem Stays.drew (w : World) : Stays w w.drew := .below ((Below.refl _ _).drew)
theorem Stays.drewN (w : World) (n : Nat) : Stays w (w.drewN n) := .below (below_drewN (Below.refl _ _) n)

section
variable {w w' : World} {A : Option Addr} {n c : Nat} {l : List UInt8} {ls : List (List UInt8)}

theorem Rd.stays (h : Rd w A n c l) (hs : Stays w w') : Rd w' A n c l :=
  ⟨h.len, h.cap, h.big, fun hn => by
    obtain ⟨b, off, e, hb, hc⟩ := h.at_ hn; exact ⟨b, off, e, Nat.lt_of_lt_of_le hb hs.1, fun j x hx => (hs.2 ⟨b, off + j, none⟩ hb).trans (hc j x hx)⟩⟩
theorem Rd.below (h : Rd w A n c l) (hb : Below w.heap.size w w') : Rd w' A n c l := h.stays (.below hb)
theorem RdL.stays (h : RdL w A n c ls) (hs : Stays w w') : RdL w' A n c ls :=
  ⟨h.len, h.cap, h.big, fun hn => by
    obtain ⟨b, off, e, hb, hc⟩ := h.at_ hn; exact ⟨b, off, e, Nat.lt_of_lt_of_le hb hs.1, fun j x hx => by
      obtain ⟨A', n', c', h1, h2⟩ := hc j x hx; exact ⟨A', n', c', (hs.2 ⟨b, off + j, none⟩ hb).trans h1, h2.stays hs⟩⟩⟩
theorem RdL.below (h : RdL w A n c ls) (hb : Below w.heap.size w w') : RdL w' A n c ls := h.stays (.below hb)

/-- a byte that is read in a round -/
theorem Rd.at' {k : Nat} (h : Rd w A n c l) (hk : k < n) : ∃ b off x, A = some ⟨b, off, none⟩ ∧ b < w.heap.size ∧ l[k]? = some x ∧ w.cell? ⟨b, off + k, none⟩ = some (bv x) := by
  obtain ⟨b, off, e, hb, hc⟩ := h.at_ (by omega); have hl : k < l.length := by rw [h.len]; exact hk
  exact ⟨b, off, l[k], e, hb, List.getElem?_eq_getElem hl, hc k _ (List.getElem?_eq_getElem hl)⟩
/-- a list that is read in a round -/
theorem RdL.at' {k : Nat} (h : RdL w A n c ls) (hk : k < n) : ∃ b off l A' n' c', A = some ⟨b, off, none⟩ ∧ b < w.heap.size ∧ ls[k]? = some l ∧ w.cell? ⟨b, off + k, none⟩ = some (.slice A' n' c') ∧ Rd w A' n' c' l := by
  obtain ⟨b, off, e, hb, hc⟩ := h.at_ (by omega); have hl : k < ls.length := by rw [h.len]; exact hk
  obtain ⟨A', n', c', h1, h2⟩ := hc k _ (List.getElem?_eq_getElem hl); exact ⟨b, off, ls[k], A', n', c', e, hb, List.getElem?_eq_getElem hl, h1, h2⟩

theorem Rd.nil (w : World) (A : Option Addr) (c : Nat) : Rd w A 0 c [] := ⟨rfl, Nat.zero_le _, by omega, fun h => absurd h (by omega)⟩

/-- a cut 's[:k]' -/
theorem Rd.take (h : Rd w A n c l) {k : Nat} (hk : k ≤ n) : Rd w A k c (l.take k) :=
  ⟨by rw [List.length_take, h.len]; omega, Nat.le_trans hk h.cap, Nat.le_trans hk h.big, fun hn => by
    obtain ⟨b, off, e, hb, hc⟩ := h.at_ (by omega); refine ⟨b, off, e, hb, fun j x hx => hc j x ?_⟩; rw [List.getElem?_take] at hx
    split at hx
    · exact hx
    · cases hx⟩
/-- a cut 's[k:]', as the walk spells its address -/
theorem Rd.drop (h : Rd w A n c l) {k : Nat} (hk : k ≤ n) : Rd w (if c = k then A else A.map (·.add k)) (n - k) (c - k) (l.drop k) :=
  ⟨by rw [List.length_drop, h.len], by have := h.cap; omega, by have := h.big; omega, fun hn => by
    obtain ⟨b, off, rfl, hb, hc⟩ := h.at_ (by omega); have := h.cap; rw [if_neg (by omega)]; refine ⟨b, off + k, ?_, hb, fun j x hx => ?_⟩
    · simp [Addr.add]
    · rw [Nat.add_assoc]; exact hc (k + j) x (by rw [← hx, List.getElem?_drop])⟩

/-- 'string(p)' -/
theorem Rd.string {P : Program} (h : Rd w A n c l) (src dst e : TypeId) (hs : P.underlying src = some (.slice e)) (he : P.underlying e = some (.int .u8)) (hd : P.underlying dst = some .string) :
    (convert src dst (.slice A n c)).run P w = .ok (.string ⟨l.toArray⟩) w := by
  rcases Nat.eq_zero_or_pos n with h0 | h0
  · subst h0; have hl : l = [] := List.eq_nil_of_length_eq_zero h.len; subst hl; rw [run_convert_bytes_string w src dst e A 0 c hs he hd]
    cases A with
    | none => simp [Conv.bytesToString]; rfl
    | some a =>
      have := run_bytesToString (P := P) w a 0 c [] (by simp [loadCells, loadCellsFrom])
      simpa [show ByteArray.empty = (⟨#[]⟩ : ByteArray) from rfl] using this
  · obtain ⟨b, off, rfl, _, hc⟩ := h.at_ h0; have hl := h.len; subst hl; refine run_convert_bytes_back w src dst e ⟨b, off, none⟩ c l hs he hd fun j hj => ?_
    have e : (⟨b, off, none⟩ : Addr).add j = ⟨b, off + j, none⟩ := by unfold Addr.add; split <;> simp_all
    rw [e]; exact hc j _ (List.getElem?_eq_getElem hj)
end

/-! ### Rows of the call's own -/
/-- the cells of bytes -/
def bs (l : List UInt8) : List Value := l.map bv
theorem bs_len (l : List UInt8) : (bs l).length = l.length := by simp [bs]
theorem bs_append (a b : List UInt8) : bs (a ++ b) = bs a ++ bs b := by simp [bs]
theorem bs_one (l : List UInt8) : ∀ u ∈ bs l, u.oneCell' = true := by
  intro u hu; obtain ⟨b, _, rfl⟩ := List.mem_map.1 hu; rfl

/-- the call owns the bytes l: what it has appended to or made -/
abbrev OwnB (w : World) (B : Nat) (e : TypeId) (v : Value) (l : List UInt8) : Prop := w.ownsRow B e 1 v l.length (bs l)

theorem OwnB.shape {w : World} {B : Nat} {e : TypeId} {v : Value} {l : List UInt8} (h : OwnB w B e v l) (hl : l.length ≤ 281474976710656) :
    ∃ A c, v = .slice A l.length c ∧ Rd w A l.length c l ∧ ((A = none ∧ l = []) ∨ ∃ g, A = some ⟨g, 0, none⟩ ∧ B ≤ g ∧ g < w.heap.size ∧ v.ownBlock = some g) := by
  rcases h.2 with ⟨rfl, h0⟩ | ⟨g, cap, cur, rfl, hb, hg, hc, _, hsz, ht⟩
  · have hl : l = [] := List.eq_nil_of_length_eq_zero h0; subst hl; exact ⟨none, 0, rfl, Rd.nil _ _ _, .inl ⟨rfl, rfl⟩⟩
  · have hlt : g < w.heap.size := (Array.getElem?_eq_some_iff.1 hg).1; refine ⟨_, cap, rfl, ⟨rfl, hc, hl, fun _ => ⟨g, 0, rfl, hlt, fun j x hx => ?_⟩⟩, .inr ⟨g, rfl, hb, hlt, rfl⟩⟩; have hk := h.cells (g := g) rfl j (bv x) (by simp [bs, hx]); have e : (⟨g, 0, none⟩ : Addr).add j = ⟨g, 0 + j, none⟩ := by unfold Addr.add; split <;> simp_all
    rwa [e] at hk
theorem OwnB.rd {w : World} {B : Nat} {e : TypeId} {A : Option Addr} {n c : Nat} {l : List UInt8} (h : OwnB w B e (.slice A n c) l) (hn : l.length = n) (hl : n ≤ 281474976710656) : Rd w A n c l := by
  subst hn; obtain ⟨A', c', hv, hr, _⟩ := h.shape hl; injection hv with h1 h2 h3
  subst h1 h3; exact hr

end Go.Proofs.Ytcnlgcmooegfkaa
