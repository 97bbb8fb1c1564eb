/-
  STATES IN MEMORY: slices of structs that read as lists, all their blocks from a mark on.
-/
import Derived.Test.YtcnlgcmooegfkaaSnapMath
import Derived.Test.YtcnlgcmooegfkaaMsgWalk
import Derived.Test.YtcnlgcmooegfkaaCopy
namespace Go.Proofs.Ytcnlgcmooegfkaa
open Go.RowKit Mg Sn

/-- what an element's cells say; it stays where the blocks from B on stay -/
abbrev ElP (α : Type) := World → Nat → α → List Value → Prop
def Keeps {α : Type} (E : ElP α) : Prop := ∀ (w w' : World) (B : Nat) (x : α) (cs : List Value), w.heap.size ≤ w'.heap.size → (∀ k, B ≤ k → k < w.heap.size → w'.heap[k]? = w.heap[k]?) → E w B x cs → E w' B x cs
def Lower {α : Type} (E : ElP α) : Prop := ∀ (w : World) (B B' : Nat) (x : α) (cs : List Value), B' ≤ B → E w B x cs → E w B' x cs

/-- the slice value '.slice A n c', elements of 'size' cells, reads as the list l, all its blocks from B on -/
structure RdE {α : Type} (E : ElP α) (size : Nat) (w : World) (B : Nat) (A : Option Addr) (n c : Nat) (l : List α) : Prop where
  len : l.length = n
  cap : n ≤ c
  big : n ≤ 281474976710656
  at_ : 0 < n → ∃ b off, A = some ⟨b, off, none⟩ ∧ B ≤ b ∧ b < w.heap.size ∧ ∀ j x, l[j]? = some x → ∃ cs, E w B x cs ∧ cs.length = size ∧ ∀ i u, cs[i]? = some u → w.cell? ⟨b, off + j * size + i, none⟩ = some u

section
variable {α : Type} {E : ElP α} {size : Nat} {w w' : World} {B : Nat} {A : Option Addr} {n c : Nat} {l : List α}
theorem cell_block {w w' : World} {b : Nat} (h : w'.heap[b]? = w.heap[b]?) (o : Nat) : w'.cell? ⟨b, o, none⟩ = w.cell? ⟨b, o, none⟩ := World.cell?_of_block (w := w) (a := ⟨b, o, none⟩) h
theorem RdE.keep (hE : Keeps E) (h : RdE E size w B A n c l) (hs : w.heap.size ≤ w'.heap.size) (hk : ∀ k, B ≤ k → k < w.heap.size → w'.heap[k]? = w.heap[k]?) : RdE E size w' B A n c l :=
  ⟨h.len, h.cap, h.big, fun hn => by
    obtain ⟨b, off, e, hB, hb, hc⟩ := h.at_ hn; refine ⟨b, off, e, hB, Nat.lt_of_lt_of_le hb hs, fun j x hx => ?_⟩; obtain ⟨cs, h1, h2, h3⟩ := hc j x hx; exact ⟨cs, hE _ _ _ _ _ hs hk h1, h2, fun i u hu => (cell_block (hk b hB hb) _).trans (h3 i u hu)⟩⟩
theorem RdE.below (hE : Keeps E) (h : RdE E size w B A n c l) (hb : Below w.heap.size w w') : RdE E size w' B A n c l := h.keep hE hb.size fun k _ hk => hb.block k hk
theorem RdE.lower (hE : Lower E) {B' : Nat} (h : RdE E size w B A n c l) (hB : B' ≤ B) : RdE E size w B' A n c l :=
  ⟨h.len, h.cap, h.big, fun hn => by
    obtain ⟨b, off, e, hb, hlt, hc⟩ := h.at_ hn; refine ⟨b, off, e, Nat.le_trans hB hb, hlt, fun j x hx => ?_⟩; obtain ⟨cs, h1, h2, h3⟩ := hc j x hx; exact ⟨cs, hE _ _ _ _ _ hB h1, h2, h3⟩⟩
/-- an element that is read in a round -/
theorem RdE.at' (h : RdE E size w B A n c l) {k : Nat} (hk : k < n) : ∃ b off x cs, A = some ⟨b, off, none⟩ ∧ B ≤ b ∧ b < w.heap.size ∧ l[k]? = some x ∧ E w B x cs ∧ cs.length = size ∧ ∀ i u, cs[i]? = some u → w.cell? ⟨b, off + k * size + i, none⟩ = some u := by
  obtain ⟨b, off, e, hB, hb, hc⟩ := h.at_ (by omega); have hl : k < l.length := by rw [h.len]; exact hk
  obtain ⟨cs, h1, h2, h3⟩ := hc k _ (List.getElem?_eq_getElem hl); exact ⟨b, off, l[k], cs, e, hB, hb, List.getElem?_eq_getElem hl, h1, h2, h3⟩
theorem RdE.nil (w : World) (B : Nat) (A : Option Addr) (c : Nat) : RdE E size w B A 0 c [] := ⟨rfl, Nat.zero_le _, by omega, fun h => absurd h (by omega)⟩
end

/-- numbers -/
def EInt : ElP Int := fun _ _ z cs => cs = [.int .i64 z]
theorem keeps_int : Keeps EInt := fun _ _ _ _ _ _ _ h => h
theorem lower_int : Lower EInt := fun _ _ _ _ _ _ h => h
/-- bytes, the block from B on -/
def RdB (w : World) (B : Nat) (A : Option Addr) (n c : Nat) (l : List UInt8) : Prop := Rd w A n c l ∧ (0 < n → ∃ b off, A = some ⟨b, off, none⟩ ∧ B ≤ b)
theorem RdB.keep {w w' : World} {B : Nat} {A : Option Addr} {n c : Nat} {l : List UInt8} (h : RdB w B A n c l) (hs : w.heap.size ≤ w'.heap.size) (hk : ∀ k, B ≤ k → k < w.heap.size → w'.heap[k]? = w.heap[k]?) : RdB w' B A n c l := by
  refine ⟨⟨h.1.len, h.1.cap, h.1.big, fun hn => ?_⟩, h.2⟩; obtain ⟨b, off, rfl, hb, hc⟩ := h.1.at_ hn; obtain ⟨b', off', e, hB⟩ := h.2 hn
  cases e
  exact ⟨b, off, rfl, Nat.lt_of_lt_of_le hb hs, fun j x hx => (cell_block (hk b hB hb) _).trans (hc j x hx)⟩
theorem RdB.lower {w : World} {B B' : Nat} {A : Option Addr} {n c : Nat} {l : List UInt8} (h : RdB w B A n c l) (hB : B' ≤ B) : RdB w B' A n c l :=
  ⟨h.1, fun hn => by obtain ⟨b, off, e, hb⟩ := h.2 hn; exact ⟨b, off, e, Nat.le_trans hB hb⟩⟩
/-- counters; messages; marks -/
def ENx : ElP Nx := fun _ _ x cs => cs = [.int .i64 x.d, .int .i64 x.c]
theorem keeps_nx : Keeps ENx := fun _ _ _ _ _ _ _ h => h
theorem lower_nx : Lower ENx := fun _ _ _ _ _ _ h => h
def EMs : ElP Ms := fun w B x cs => ∃ A c, cs = [.int .i64 x.i.o, .int .i64 x.i.d, .int .i64 x.i.e, .int .i64 x.i.c, .slice A x.l.length c] ∧ RdB w B A x.l.length c x.l
theorem keeps_ms : Keeps EMs := fun _ _ _ _ _ hs hk ⟨A, c, e, h⟩ => ⟨A, c, e, h.keep hs hk⟩
theorem lower_ms : Lower EMs := fun _ _ _ _ _ hB ⟨A, c, e, h⟩ => ⟨A, c, e, h.lower hB⟩
def EMk : ElP Mk := fun w B x cs => ∃ A c, cs = [.int .i64 x.o, .int .i64 x.e, .int .i64 x.u, .slice A x.m.length c] ∧ RdE EInt 1 w B A x.m.length c x.m
theorem keeps_mk : Keeps EMk := fun _ _ _ _ _ hs hk ⟨A, c, e, h⟩ => ⟨A, c, e, h.keep keeps_int hs hk⟩
theorem lower_mk : Lower EMk := fun _ _ _ _ _ hB ⟨A, c, e, h⟩ => ⟨A, c, e, h.lower lower_int hB⟩

/-- a state's value: its slices -/
structure Sv where
  A1 : Option Addr
  n1 : Nat
  c1 : Nat
  A2 : Option Addr
  n2 : Nat
  c2 : Nat
  A3 : Option Addr
  n3 : Nat
  c3 : Nat
def stv (s : St) (v : Sv) : Value := .agg #[.int .i64 s.self, .int .i64 s.ep, .slice v.A1 v.n1 v.c1, .slice v.A2 v.n2 v.c2, .slice v.A3 v.n3 v.c3]
/-- the state's value reads as the state -/
structure RdS (w : World) (B : Nat) (v : Sv) (s : St) : Prop where
  nx : RdE ENx 2 w B v.A1 v.n1 v.c1 s.nx
  hd : RdE EMs 5 w B v.A2 v.n2 v.c2 s.hd
  sn : RdE EMk 4 w B v.A3 v.n3 v.c3 s.sn
theorem RdS.keep {w w' : World} {B : Nat} {v : Sv} {s : St} (h : RdS w B v s) (hs : w.heap.size ≤ w'.heap.size) (hk : ∀ k, B ≤ k → k < w.heap.size → w'.heap[k]? = w.heap[k]?) : RdS w' B v s :=
  ⟨h.nx.keep keeps_nx hs hk, h.hd.keep keeps_ms hs hk, h.sn.keep keeps_mk hs hk⟩
theorem RdS.below {w w' : World} {B : Nat} {v : Sv} {s : St} (h : RdS w B v s) (hb : Below w.heap.size w w') : RdS w' B v s := h.keep hb.size fun k _ hk => hb.block k hk
theorem RdS.lower {w : World} {B B' : Nat} {v : Sv} {s : St} (h : RdS w B v s) (hB : B' ≤ B) : RdS w B' v s := ⟨h.nx.lower lower_nx hB, h.hd.lower lower_ms hB, h.sn.lower lower_mk hB⟩
end Go.Proofs.Ytcnlgcmooegfkaa
