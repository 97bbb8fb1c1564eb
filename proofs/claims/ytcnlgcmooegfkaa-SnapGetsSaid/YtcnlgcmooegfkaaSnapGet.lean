/-
  THE BYTES OF A STATE, READ: the walk of snap.Get.
-/
import Derived.Test.YtcnlgcmooegfkaaSnapOwn
import Derived.Test.YtcnlgcmooegfkaaMsgGet3
namespace Go.Proofs.Ytcnlgcmooegfkaa
open Go.RowKit Mg Sn

/-- the empty state's value -/
def st0 : Value := .agg #[.int .i64 0, .int .i64 0, .slice none 0 0, .slice none 0 0, .slice none 0 0]
set_option maxRecDepth 100000 in
set_option maxHeartbeats 4000000 in
theorem sget_short (A : Option Addr) (n c : Nat) (w : World) (hn : n < 4) :
    Calls Try.prog 16 #[.slice A n c] w fun e w' => e = .returned (.tuple #[st0, .int .i64 2]) ∧ Below w.heap.size w w' := by
  have d1 : decide ((n : Int) < 4) = true := by simp; omega
  unfold st0
  go_enter Try.func16, Try.ntmps16
  go_wp2_with fail
  refine bodyPost_ret (results_cell2 rfl _ _ w.heap.size _ _ _ _ rfl (heap_alloc_new w _) Try.underlying26 rfl (by kernel_rfl)) rfl ?_; exact ⟨rfl, (Below.refl _ _).alloc (Nat.le_refl _) _⟩

/-- what Get answers -/
def GetR (w' : World) (B : Nat) (R : Option St) (e : Ending) : Prop := match R with
  | none => e = .returned (.tuple #[st0, .int .i64 2])
  | some s => ∃ v, e = .returned (.tuple #[stv s v, .int .i64 0]) ∧ RdS w' B v s
/-- the cells of Get's own: its result, its bytes, the place in them -/
structure GI (A : Option Addr) (n c : Nat) (w wr : World) (pr p4 p7 p8 : Nat) (pl : Pl) : Prop where
  below : Below w.heap.size w wr
  h2 : wr.heap[pr]? = some (.cells #[.int .i64 0, .int .i64 0, .slice none 0 0, .slice none 0 0, .slice none 0 0] 26 (0, 0))
  h4 : wr.heap[p4]? = some (.cells #[.slice A n c] 28 (0, 0))
  h7 : wr.heap[p7]? = some (.cells #[.int .i64 pl.at_] 3 (0, 0))
  h8 : wr.heap[p8]? = some (.cells #[.bool pl.bad] 4 (0, 0))
/-- where they stand -/
structure Ps (w : World) (pr p4 p7 p8 : Nat) : Prop where
  a : w.heap.size ≤ pr
  b : pr < p4
  c : p4 < p7
  d : p7 < p8
theorem GI.next {A : Option Addr} {n c : Nat} {w wr : World} {pr p4 p7 p8 : Nat} {pl : Pl} {b : List UInt8} (hP : Ps w pr p4 p7 p8) (hR : Rd w A n c b) (h : GI A n c w wr pr p4 p7 p8 pl) (k : Nat) (hk : 1 ≤ k) (hk2 : k ≤ 2) (hat : pl.at_ ≤ 600000000000000) :
    Calls Try.prog 33 #[.int .i64 k, .pointer (some ⟨p4, 0, none⟩), .pointer (some ⟨p7, 0, none⟩), .pointer (some ⟨p8, 0, none⟩)] wr fun e w' => e = .returned (.int .i64 (pl.get b k)) ∧ GI A n c w w' pr p4 p7 p8 (pl.step b k) ∧ Kept (fun j => j = p7 ∨ j = p8) wr w' := by
  have h1 := hP.a; have h2 := hP.b; have h3 := hP.c; have h4 := hP.d; refine (next_any A n c b pl.at_ k p4 p7 p8 pl.bad wr (hR.below h.below) hR.big hat hk hk2 h.h4 h.h7 h.h8 (by omega)).mono ?_; rintro e w' ⟨rfl, hK, h7, h8⟩; have l2 := (Array.getElem?_eq_some_iff.1 h.h2).1; have l4 := (Array.getElem?_eq_some_iff.1 h.h4).1; exact ⟨rfl, ⟨h.below.trans (hK.below h.below.size (fun i hi hs => by omega)), (hK.block pr l2 (by omega)).trans h.h2, (hK.block p4 l4 (by omega)).trans h.h4, h7, h8⟩, hK⟩
theorem GI.kept {A : Option Addr} {n c : Nat} {w wr w' : World} {pr p4 p7 p8 : Nat} {pl : Pl} (hP : Ps w pr p4 p7 p8) (h : GI A n c w wr pr p4 p7 p8 pl) {S : Nat → Prop} (hK : Kept S wr w') (hS : ∀ i, S i → p8 < i) : GI A n c w w' pr p4 p7 p8 pl := by
  have h1 := hP.a; have h2 := hP.b; have h3 := hP.c; have h4 := hP.d; have l2 := (Array.getElem?_eq_some_iff.1 h.h2).1; have l4 := (Array.getElem?_eq_some_iff.1 h.h4).1; have l7 := (Array.getElem?_eq_some_iff.1 h.h7).1; have l8 := (Array.getElem?_eq_some_iff.1 h.h8).1; exact ⟨h.below.trans (hK.below h.below.size (fun i hi hs => by have := hS i hs; omega)), (hK.block pr l2 (fun hs => by have := hS _ hs; omega)).trans h.h2, (hK.block p4 l4 (fun hs => by have := hS _ hs; omega)).trans h.h4, (hK.block p7 l7 (fun hs => by have := hS _ hs; omega)).trans h.h7, (hK.block p8 l8 (fun hs => by have := hS _ hs; omega)).trans h.h8⟩
theorem GI.hop {A : Option Addr} {n c : Nat} {w wr w' : World} {pr p4 p7 p8 : Nat} {pl : Pl} (hP : Ps w pr p4 p7 p8) (h : GI A n c w wr pr p4 p7 p8 pl) {S : Nat → Prop} (hK : Kept S wr w') (hS : ∀ i, S i → i = p7 ∨ p8 < i) {z : Nat} (h7 : w'.heap[p7]? = some (.cells #[.int .i64 (z : Int)] 3 (0, 0))) : GI A n c w w' pr p4 p7 p8 ⟨z, pl.bad⟩ := by
  have h1 := hP.a; have h2 := hP.b; have h3 := hP.c; have h4 := hP.d; have l2 := (Array.getElem?_eq_some_iff.1 h.h2).1; have l4 := (Array.getElem?_eq_some_iff.1 h.h4).1; have l8 := (Array.getElem?_eq_some_iff.1 h.h8).1; exact ⟨h.below.trans (hK.below h.below.size (fun i hi hs => by have := hS i hs; omega)), (hK.block pr l2 (fun hs => by have := hS _ hs; omega)).trans h.h2, (hK.block p4 l4 (fun hs => by have := hS _ hs; omega)).trans h.h4, h7, (hK.block p8 l8 (fun hs => by have := hS _ hs; omega)).trans h.h8⟩
theorem GI.next1 {A : Option Addr} {n c : Nat} {w wr : World} {pr p4 p7 p8 : Nat} {pl : Pl} {b : List UInt8} (hP : Ps w pr p4 p7 p8) (hR : Rd w A n c b) (h : GI A n c w wr pr p4 p7 p8 pl) (hat : pl.at_ ≤ 600000000000000) :
    Calls Try.prog 33 #[.int .i64 1, .pointer (some ⟨p4, 0, none⟩), .pointer (some ⟨p7, 0, none⟩), .pointer (some ⟨p8, 0, none⟩)] wr fun e w' => e = .returned (.int .i64 (rdV b pl.at_ 1 : Nat)) ∧ GI A n c w w' pr p4 p7 p8 (pl.step b 1) ∧ Kept (fun j => j = p7 ∨ j = p8) wr w' :=
  h.next hP hR 1 (Nat.le_refl _) (by omega) hat
theorem GI.next2 {A : Option Addr} {n c : Nat} {w wr : World} {pr p4 p7 p8 : Nat} {pl : Pl} {b : List UInt8} (hP : Ps w pr p4 p7 p8) (hR : Rd w A n c b) (h : GI A n c w wr pr p4 p7 p8 pl) (hat : pl.at_ ≤ 600000000000000) :
    Calls Try.prog 33 #[.int .i64 2, .pointer (some ⟨p4, 0, none⟩), .pointer (some ⟨p7, 0, none⟩), .pointer (some ⟨p8, 0, none⟩)] wr fun e w' => e = .returned (.int .i64 (rdV b pl.at_ 2 : Nat)) ∧ GI A n c w w' pr p4 p7 p8 (pl.step b 2) ∧ Kept (fun j => j = p7 ∨ j = p8) wr w' :=
  h.next hP hR 2 (by omega) (Nat.le_refl _) hat
/-- what is still to come, behind the counters, behind the messages -/
def cN (b : List UInt8) (self ep : Int) (r : Pl × List Nx) : Option St := parse2 b ⟨self, ep, r.2, [], []⟩ (r.1.step b 2) (rdV b r.1.at_ 2)
def cH (b : List UInt8) (s : St) (r : Option (Pl × List Ms)) : Option St := match r with
  | none => none
  | some (q, hd) => parse3 b { s with hd := hd } (q.step b 2) (rdV b q.at_ 2)
def cS (b : List UInt8) (s : St) (r : Option (Pl × List Mk)) : Option St := match r with
  | none => none
  | some (q, sn) => if q.bad = true ∨ q.at_ ≠ b.length ∨ ck { s with sn := sn } ≠ 0 then none else some { s with sn := sn }
/-- a region of Get on its way: which calls have come up, has the row been appended to, has it been stored -/
structure NI (G : World → Pl → Prop) (S : Nat → Prop) (row : Value) (q10 : Nat) (wr : World) (p0 p1 p2 : Pl) (d1 d2 d8 d10 : Bool) (w' : World) : Prop where
  kept : Kept S wr w'
  g0 : d1 = false → G w' p0
  g1 : d1 = true → d2 = false → G w' p1
  g2 : d2 = true → G w' p2
  row : d8 = false → ∀ q, row.ownBlock = some q → w'.heap[q]? = wr.heap[q]?
  cell : d10 = false → w'.heap[q10]? = wr.heap[q10]?
section
variable {G : World → Pl → Prop} {S S' : Nat → Prop} {row : Value} {q10 p8 : Nat} {wr w1 w2 : World} {p0 p1 p2 : Pl} {d1 d2 d8 d10 : Bool}
/-- what the region may write: the place, the row, the slot -/
structure NS (G : World → Pl → Prop) (S : Nat → Prop) (row : Value) (q10 p7 p8 : Nat) (wr : World) : Prop where
  g : ∀ (x y : World) (pl : Pl) (S' : Nat → Prop), G x pl → Kept S' x y → (∀ i, S' i → p8 < i) → G y pl
  s7 : S p7
  s8 : S p8
  s10 : S q10
  row : ∀ q, row.ownBlock = some q → S q ∧ q10 < q ∧ q < wr.heap.size
  lt7 : p7 < q10
  lt8 : p8 < q10
  ltq : q10 < wr.heap.size
theorem NI.start {p7 : Nat} (hN : NS G S row q10 p7 p8 wr) (h : G wr p0) : NI G S row q10 wr p0 p1 p2 false false false false wr.drew :=
  ⟨(Kept.refl _ _).drew, fun _ => hN.g _ _ _ (fun _ => False) h (Kept.refl _ _).drew (fun _ h => h.elim), fun e => (by cases e), fun e => (by cases e), fun _ _ _ => rfl, fun _ => rfl⟩
theorem NI.grow {p7 : Nat} (hN : NS G S row q10 p7 p8 wr) (h : NI G S row q10 wr p0 p1 p2 d1 d2 d8 d10 w1) (hb : Below w1.heap.size w1 w2) : NI G S row q10 wr p0 p1 p2 d1 d2 d8 d10 w2 := by
  have hK : Kept (fun _ => False) w1 w2 := Kept.all hb; have hz := h.kept.size; exact ⟨h.kept.trans hK (fun _ _ h => h.elim), fun e => hN.g _ _ _ _ (h.g0 e) hK (fun _ h => h.elim), fun e e' => hN.g _ _ _ _ (h.g1 e e') hK (fun _ h => h.elim), fun e => hN.g _ _ _ _ (h.g2 e) hK (fun _ h => h.elim), fun e q hq => (hb.block q (by have := (hN.row q hq).2.2; omega)).trans (h.row e q hq), fun e => (hb.block q10 (by have := hN.ltq; omega)).trans (h.cell e)⟩
theorem NI.call1 {p7 : Nat} (hN : NS G S row q10 p7 p8 wr) (h : NI G S row q10 wr p0 p1 p2 d1 d2 d8 d10 w1) (e2 : d2 = false) (hG : G w2 p1) (hK : Kept (fun j => j = p7 ∨ j = p8) w1 w2) : NI G S row q10 wr p0 p1 p2 true d2 d8 d10 w2 := by
  have hz := h.kept.size; have h7 := hN.lt7; have h8 := hN.lt8; have hq := hN.ltq; refine ⟨h.kept.trans hK (fun i _ hi => ?_), fun e => (by cases e), fun _ _ => hG, fun e => (by rw [e2] at e; cases e), fun e q hq => (hK.block q ?_ ?_).trans (h.row e q hq), fun e => (hK.block q10 (by omega) (by omega)).trans (h.cell e)⟩
  · rcases hi with rfl | rfl
    · exact hN.s7
    · exact hN.s8
  · have := (hN.row q hq).2.2; omega
  · have := (hN.row q hq).2.1; omega
theorem NI.call2 {p7 : Nat} (hN : NS G S row q10 p7 p8 wr) (h : NI G S row q10 wr p0 p1 p2 d1 d2 d8 d10 w1) (e1 : d1 = true) (hG : G w2 p2) (hK : Kept (fun j => j = p7 ∨ j = p8) w1 w2) : NI G S row q10 wr p0 p1 p2 d1 true d8 d10 w2 := by
  have hz := h.kept.size; have h7 := hN.lt7; have h8 := hN.lt8; have hq := hN.ltq; refine ⟨h.kept.trans hK (fun i _ hi => ?_), fun e => (by rw [e1] at e; cases e), fun _ e => (by cases e), fun _ => hG, fun e q hq => (hK.block q ?_ ?_).trans (h.row e q hq), fun e => (hK.block q10 (by omega) (by omega)).trans (h.cell e)⟩
  · rcases hi with rfl | rfl
    · exact hN.s7
    · exact hN.s8
  · have := (hN.row q hq).2.2; omega
  · have := (hN.row q hq).2.1; omega
theorem NI.app {p7 : Nat} (hN : NS G S row q10 p7 p8 wr) (h : NI G S row q10 wr p0 p1 p2 d1 d2 d8 d10 w1) (hg : w1.grownBy w2 row.ownBlock) : NI G S row q10 wr p0 p1 p2 d1 d2 true d10 w2 := by
  have hK : Kept (fun q => row.ownBlock = some q) w1 w2 := (Kept.refl _ _).grown hg (fun k hk => .inl hk); have hz := h.kept.size; have h8 := hN.lt8; have hq := hN.ltq; have hp : ∀ i, row.ownBlock = some i → p8 < i := fun i hi => by have := (hN.row i hi).2.1; omega
  exact ⟨h.kept.trans hK (fun i _ hi => (hN.row i hi).1), fun e => hN.g _ _ _ _ (h.g0 e) hK hp, fun e e' => hN.g _ _ _ _ (h.g1 e e') hK hp, fun e => hN.g _ _ _ _ (h.g2 e) hK hp, fun e => by (cases e), fun e => (hK.block q10 (by omega) (fun e => by have := (hN.row q10 e).2.1; omega)).trans (h.cell e)⟩
theorem NI.sto {p7 o : Nat} {u : Value} (hN : NS G S row q10 p7 p8 wr) (h : NI G S row q10 wr p0 p1 p2 d1 d2 d8 d10 w1) : NI G S row q10 wr p0 p1 p2 d1 d2 d8 true (w1.setCell ⟨q10, o, none⟩ u) := by
  have hK : Kept (fun q => q = q10) w1 (w1.setCell ⟨q10, o, none⟩ u) := (Kept.refl (fun q => q = q10) _).setCell (p := ⟨q10, o, none⟩) (.inl rfl) _; have hz := h.kept.size; have h8 := hN.lt8; exact ⟨h.kept.trans hK (fun i _ hi => by subst hi; exact hN.s10), fun e => hN.g _ _ _ _ (h.g0 e) hK (fun i hi => by omega), fun e e' => hN.g _ _ _ _ (h.g1 e e') hK (fun i hi => by omega), fun e => hN.g _ _ _ _ (h.g2 e) hK (fun i hi => by omega), fun e q hq => (hK.block q (by have := (hN.row q hq).2.2; omega) (by have := (hN.row q hq).2.1; omega)).trans (h.row e q hq), fun e => by (cases e)⟩
end
/-- what each operation writes -/
def NGr (p7 p8 q10 : Nat) (row : Value) (c1 c2 a s : Nat) (j : Nat) (x y : World) : Prop := Kept (fun q => (j = c1 ∨ j = c2) ∧ (q = p7 ∨ q = p8) ∨ j = a ∧ row.ownBlock = some q ∨ j = s ∧ q = q10) x y
theorem NGr.refl {p7 p8 q10 : Nat} {row : Value} {c1 c2 a s : Nat} (j : Nat) (x : World) : NGr p7 p8 q10 row c1 c2 a s j x x := Kept.refl _ _
theorem src_cells {w : World} {p : Nat} {cs : List Value} {T : TypeId} {fr : Nat × Nat} (h : w.heap[p]? = some (.cells cs.toArray T fr)) (m size : Nat) (hm : cs.length = m * size) (h1 : ∀ u ∈ cs, u.oneCell' = true) : Src w (some ⟨p, 0, none⟩) m size cs :=
  ⟨hm, fun _ => ⟨⟨p, 0, none⟩, rfl, fun j u hu => by
    rw [add_none, cell_of_cells h]
    simpa using hu⟩, h1⟩
theorem OwnE.keptK {α : Type} {E : ElP α} {size : Nat} {T : TypeId} {w w' : World} {B : Nat} {v : Value} {l : List α} {S : Nat → Prop} (hE : StaysX E 4) (hT : T ≠ 4) (h : OwnE E size T w B v l) (hK : Kept S w w') (hS : ∀ k, S k → k < B) : OwnE E size T w' B v l :=
  h.sameX hE hT (SameX.of_kept hK hS)
theorem own_ints {T : TypeId} {w : World} {B : Nat} {v : Value} {l : List Int} (h : OwnE EInt 1 T w B v l) : w.ownsRow B T 1 v l.length (is64 l) := by
  obtain ⟨xs, h1, h2⟩ := h; have e : xs = is64 l := by
    have hl : xs.length = l.length := by have := h1.1; omega
    refine List.ext_getElem? fun j => ?_
    by_cases hj : j < l.length
    · obtain ⟨cs, h3, _, h5⟩ := h2 j l[j] (List.getElem?_eq_getElem hj); unfold EInt at h3; subst h3; have := h5 0 _ rfl; rw [Nat.mul_one, Nat.add_zero] at this; rw [this]; simp [is64, hj]
    · rw [List.getElem?_eq_none (by omega), List.getElem?_eq_none (by simp [is64]; omega)]
  rw [← e]; exact h1
theorem keeps_ints {X : TypeId} : StaysX EInt X := fun _ _ _ _ _ _ h => h
section
variable {G : World → Pl → Prop} {S : Nat → Prop} {row : Value} {q10 p7 p8 : Nat} {wr x y : World} {c1 c2 a s j : Nat}
theorem NGr.new (hN : NS G S row q10 p7 p8 wr) (h : NGr p7 p8 q10 row c1 c2 a s j x y) {p : Nat} (hp : wr.heap.size ≤ p) (hx : p < x.heap.size) : y.heap[p]? = x.heap[p]? := by
  have h7 := hN.lt7; have h8 := hN.lt8; have hq := hN.ltq; refine h.block p hx fun hs => ?_
  rcases hs with ⟨_, h⟩ | ⟨_, h⟩ | ⟨_, h⟩
  · omega
  · have := (hN.row p h).2.2; omega
  · omega
theorem NGr.own (hN : NS G S row q10 p7 p8 wr) (h : NGr p7 p8 q10 row c1 c2 a s j x y) {α : Type} {E : ElP α} {size : Nat} {T : TypeId} {v : Value} {l : List α} (hE : StaysX E 4) (hT : T ≠ 4) (ho : OwnE E size T x (q10 + 1) v l) (hj : j ≠ a) : OwnE E size T y (q10 + 1) v l := by
  have h7 := hN.lt7; have h8 := hN.lt8; refine ho.keptK hE hT h fun z hz => ?_
  rcases hz with ⟨_, h⟩ | ⟨h, _⟩ | ⟨_, h⟩
  · omega
  · exact absurd h hj
  · omega
theorem NGr.cell (hN : NS G S row q10 p7 p8 wr) (h : NGr p7 p8 q10 row c1 c2 a s j x y) (hj : j ≠ s) (hx : q10 < x.heap.size) : y.heap[q10]? = x.heap[q10]? := by
  have h7 := hN.lt7; have h8 := hN.lt8; refine h.block q10 hx fun hs => ?_
  rcases hs with ⟨_, h⟩ | ⟨_, h⟩ | ⟨h, _⟩
  · omega
  · have := (hN.row q10 h).2.1; omega
  · exact absurd h hj
end
theorem rdV_lt (b : List UInt8) (n k : Nat) (hk : k ≤ 2) : rdV b n k < 65536 := by
  unfold rdV
  split
  · have := nval_lt ((b.drop n).take k); have h9 : 256 ^ ((b.drop n).take k).length ≤ 256 ^ 2 := Nat.pow_le_pow_right (by omega) (by rw [List.length_take]; omega); omega
  · omega
theorem rdV_lt1 (b : List UInt8) (n : Nat) : rdV b n 1 < 256 := by
  unfold rdV
  split
  · have := nval_lt ((b.drop n).take 1); have h9 : 256 ^ ((b.drop n).take 1).length ≤ 256 ^ 1 := Nat.pow_le_pow_right (by omega) (by rw [List.length_take]; omega); omega
  · omega

/-- one more, behind a row that reads as a list -/
theorem wpList_more {α : Type} {E : ElP α} {size bytes : Nat} {T t : TypeId} {z : Value} (hEl : ElemOf Try.prog t T z size bytes) (hS : StaysX E T) (hSb : StaysX E 4) (hTb : T ≠ 4) {w6 W : World} {q : Nat} {S : Nat → Prop} {A2 : Option Addr} {j c2 : Nat} {hd : List α} {x : α} {cs : List Value}
    (hO : OwnE E size T w6 (q + 1) (.slice A2 j c2) hd) (hn : hd.length = j) (hx6 : E w6 (q + 1) x cs) (hcs : cs.length = size) (hK : Kept S w6 W) (hSq : ∀ i, S i → i < q + 1) (hq : q + 1 ≤ w6.heap.size) (hb : (j + 1) * bytes ≤ 140737488355328)
    {ops : Array Oper} {rest : List Oper} {o : Oper} {a : Act} {Q : Exit → Act → World → Prop} (hgd : o.guard = none) (s y : Operand) (ho : o.op = .call { callee := .builtin .append, args := #[s, y], argTypes := #[t, t] })
    (hv : a.eval s = .slice A2 j c2) {A : Option Addr} {c : Nat} (hy : a.eval y = .slice A 1 c) (hsrc : Src W A 1 size cs)
    (h : ∀ A7 c7 w7, OwnE E size T w7 (q + 1) (.slice A7 (j + 1) c7) (hd ++ [x]) → SameX T (q + 1) w6 w7 → Kept (fun i => S i ∨ Value.ownBlock (.slice A2 j c2) = some i) w6 w7 → (∀ i, i ≤ q → w7.heap[i]? = W.heap[i]?) → wpList Try.prog ops Q rest (a.put o.dst (.slice A7 (j + 1) c7)) w7) : wpList Try.prog ops Q (o :: rest) a W := by
  have hlt := hO.lt; obtain ⟨xs, h1, h2⟩ := hO.keptK hSb hTb hK hSq; rw [hn] at h1; have hX : SameX T (q + 1) w6 W := SameX.of_kept hK hSq; have hz := hK.size; refine wpList_app W hgd hEl s y ho hv h1 hy hsrc (j + 1) rfl hb (by omega) ?_; intro A7 c7 w7 hown hg _; refine h A7 c7 w7 ?_ (hX.trans (SameX.of_grown h1 hg)) ?_ ?_
  · rw [← hn]; exact OwnE.snoc hS (by rw [hn]; exact h1) h2 (hS _ _ _ _ _ hX hx6) hcs hg (by rw [hn]; exact hown)
  · exact (hK.mono (fun i _ hi => .inl hi)).grown hg (fun k hk => .inl (.inr hk))
  · intro i hi; exact hg.block i (by omega) (fun e => by have := (hlt i e.symm).1; omega)
theorem get_ret0 {w WR : World} {R : Option St} {act : Act} (hR : R = none) (g2 : WR.heap[w.heap.size]? = some (.cells #[.int .i64 0, .int .i64 0, .slice none 0 0, .slice none 0 0, .slice none 0 0] 26 (0, 0))) (hb : Below w.heap.size w WR)
    (hd : act.defers = []) (h2 : act.tmps.getD 2 undef = .pointer (some ⟨w.heap.size, 0, none⟩)) (h3 : act.tmps.getD 3 undef = .int .i64 2) :
    bodyPost Try.prog Try.f16 (fun e w' => Below w.heap.size w w' ∧ GetR w' w.heap.size R e) .ret act (((((WR.setCell ⟨w.heap.size, 0, none⟩ (.int .i64 0)).setCell ⟨w.heap.size, 1, none⟩ (.int .i64 0)).setCell ⟨w.heap.size, 2, none⟩ (.slice none 0 0)).setCell ⟨w.heap.size, 3, none⟩ (.slice none 0 0)).setCell ⟨w.heap.size, 4, none⟩ (.slice none 0 0)) := by
  have hst := sets_heap0 (vs := [.int .i64 0, .int .i64 0, .slice none 0 0, .slice none 0 0, .slice none 0 0]) (us := [.int .i64 0, .int .i64 0, .slice none 0 0, .slice none 0 0, .slice none 0 0]) g2 rfl; have hbe := sets_below (Nat.le_refl w.heap.size) [.int .i64 0, .int .i64 0, .slice none 0 0, .slice none 0 0, .slice none 0 0] 0 WR hb; simp only [sets, Nat.zero_add, Nat.reduceAdd] at hst hbe; refine bodyPost_ret (results_cell2 rfl _ _ w.heap.size _ _ _ _ h2 hst Try.underlying26 rfl (by kernel_rfl)) hd ?_; rw [h3, hR]; exact ⟨hbe, rfl⟩
theorem get_ret1 {w WR : World} {R : Option St} {S : St} {v : Sv} {B : Nat} {act : Act} {x0 x1 x2 x3 x4 : Value} (hR : R = some S) (hv : stv S v = .agg #[x0, x1, x2, x3, x4]) (hrd : RdS WR B v S) (hB : w.heap.size < B)
    (g2 : WR.heap[w.heap.size]? = some (.cells #[.int .i64 0, .int .i64 0, .slice none 0 0, .slice none 0 0, .slice none 0 0] 26 (0, 0))) (hb : Below w.heap.size w WR)
    (hd : act.defers = []) (h2 : act.tmps.getD 2 undef = .pointer (some ⟨w.heap.size, 0, none⟩)) (h3 : act.tmps.getD 3 undef = .int .i64 0) :
    bodyPost Try.prog Try.f16 (fun e w' => Below w.heap.size w w' ∧ GetR w' w.heap.size R e) .ret act (((((WR.setCell ⟨w.heap.size, 0, none⟩ x0).setCell ⟨w.heap.size, 1, none⟩ x1).setCell ⟨w.heap.size, 2, none⟩ x2).setCell ⟨w.heap.size, 3, none⟩ x3).setCell ⟨w.heap.size, 4, none⟩ x4) := by
  have hst := sets_heap0 (vs := [x0, x1, x2, x3, x4]) (us := [.int .i64 0, .int .i64 0, .slice none 0 0, .slice none 0 0, .slice none 0 0]) g2 rfl; have hbe := sets_below (Nat.le_refl w.heap.size) [x0, x1, x2, x3, x4] 0 WR hb; have hoth := fun q hq => sets_other (q := w.heap.size) [x0, x1, x2, x3, x4] 0 WR q hq
  have hszz : (sets w.heap.size 0 [x0, x1, x2, x3, x4] WR).heap.size = WR.heap.size := by simp [sets]
  have hr := (hrd.keep (Nat.le_of_eq hszz.symm) (fun q hq _ => hoth q (by omega))).lower (B' := w.heap.size) (by omega); simp only [sets, Nat.zero_add, Nat.reduceAdd] at hst hbe hr; refine bodyPost_ret (results_cell2 rfl _ _ w.heap.size _ _ _ _ h2 hst Try.underlying26 rfl (by kernel_rfl)) hd ?_; rw [h3, hR]; exact ⟨hbe, v, by rw [hv], hr⟩
set_option maxRecDepth 100000 in
set_option maxHeartbeats 8000000 in
theorem sget_any (A : Option Addr) (n c : Nat) (l : List UInt8) (w : World) (hR : Rd w A n c l) :
    Calls Try.prog 16 #[.slice A n c] w fun e w' => Below w.heap.size w w' ∧ GetR w' w.heap.size (getS l) e := by
  by_cases hn : n < 4
  · have hg : getS l = none := by rw [getS, if_pos (by rw [hR.len]; exact hn)]
    rw [hg]; exact (sget_short A n c w hn).mono fun e w' h => ⟨h.2, h.1⟩
  obtain ⟨m, rfl⟩ : ∃ m, n = m + 4 := ⟨n - 4, by omega⟩; obtain ⟨b, off, rfl, hb, _⟩ := hR.at_ (by omega); have hl := hR.len; have hbig := hR.big; have hcap := hR.cap; obtain ⟨bd, hbd⟩ : ∃ bd, bd = l.take m := ⟨_, rfl⟩; have hgs : getS l = if nval (l.drop m) ≠ Crc.sum bd then none else parse bd := by
    rw [getS, if_neg (by omega), hl, Nat.add_sub_cancel, hbd]
  obtain ⟨R, hRR⟩ : ∃ R, R = getS l := ⟨_, rfl⟩; rw [← hRR] at hgs ⊢; have hRb : Rd w (some ⟨b, off, none⟩) m c bd := by rw [hbd]; exact hR.take (by omega)
  have HS : Hid (∀ w' : World, Below w.heap.size w w' → Calls Try.prog 32 #[.slice (some ⟨b, off, none⟩) (m + 4) c, .int .i64 m, .int .i64 4] w' fun e w'' => e = .returned (.tuple #[.int .u64 (nval (l.drop m)), .int .i64 0]) ∧ Below w'.heap.size w' w'') := fun w' h => by
    have := bget_ok (some ⟨b, off, none⟩) (m + 4) c l m 4 w' (hR.below h) hbig (Nat.le_refl _) (by omega) (by omega)
    rwa [List.take_of_length_le (by rw [List.length_drop]; omega)] at this
  have hbl := hRb.len; have hsv : nval (l.drop m) < 4294967296 := by
    have := nval_lt (l.drop m); rw [List.length_drop, hl, show m + 4 - m = 4 by omega] at this; exact this
  obtain ⟨SV, hSV⟩ : ∃ SV, SV = nval (l.drop m) := ⟨_, rfl⟩; rw [← hSV] at HS hgs hsv; have HRb := Lib.hid hRb; have HGS := Lib.hid hgs; have HBL := Lib.hid hbl; have d1 : decide (((m + 4 : Nat) : Int) < 4) = false := by simp; omega
  have hsub : IntKind.i64.wrap (((m + 4 : Nat) : Int) - 4) = (m : Int) := by rw [IntWalk.i64_in _ (by omega)]; omega
  have hm0 : (0 : Int) ≤ (m : Int) := by omega
  have hm1 : (m : Int) ≤ (c : Int) := by omega
  have hmc : m ≤ c := by omega
  clear hRR hgs hRb hR hl hbd hSV hbl
  go_enter Try.func16, Try.ntmps16
  go_wp2_with fail
  obtain ⟨W2, hW2⟩ : ∃ W2, W2 = (w.alloc (.cells #[.int .i64 0, .int .i64 0, .slice none 0 0, .slice none 0 0, .slice none 0 0] 26)).alloc (.cells #[.slice (some ⟨b, off, none⟩) m c] 28) := ⟨_, rfl⟩; rw [← hW2]; have hs2 : W2.heap.size = w.heap.size + 2 := by rw [hW2]; simp
  have hB2 : Below w.heap.size w W2 := by rw [hW2]; exact ((Below.refl _ _).alloc (Nat.le_refl _) _).alloc (by simp) _
  have g2 : W2.heap[w.heap.size]? = some (.cells #[.int .i64 0, .int .i64 0, .slice none 0 0, .slice none 0 0, .slice none 0 0] 26 (0, 0)) := by rw [hW2]; exact (Below.heap_alloc _ _ _ (by simp)).trans (heap_alloc_new w _)
  have g4 : W2.heap[w.heap.size + 1]? = some (.cells #[.slice (some ⟨b, off, none⟩) m c] 28 (0, 0)) := by
    rw [hW2]; have := heap_alloc_new (w.alloc (.cells #[.int .i64 0, .int .i64 0, .slice none 0 0, .slice none 0 0, .slice none 0 0] 26)) (.cells #[.slice (some ⟨b, off, none⟩) m c] 28)
    rwa [World.size_alloc] at this
  refine (HS.out W2 hB2).mono ?_; rintro e1 w1 ⟨rfl, hb1⟩; have hz1 := hb1.size; have G2 := Lib.hid ((hb1.block w.heap.size (by omega)).trans g2); have G4 := Lib.hid ((hb1.block (w.heap.size + 1) (by omega)).trans g4); have HB1 := Lib.hid (hB2.trans (hb1.mono (by omega))); have a4 := cell_of_cells G4.out 0; simp at a4; clear hW2 hB2 g2 g4 hb1 HS
  go_wp2_with fail
  have hrd := HRb.out.below HB1.out; have hfl : [bd].flatten = bd := by simp
  refine (sum_any _ _ _ [bd] _ (RdL.single hrd _)).mono ?_; rintro e3 w3 ⟨rfl, rfl⟩; rw [hfl]; obtain ⟨CS, hCS⟩ : ∃ CS, CS = Crc.sum bd := ⟨_, rfl⟩; rw [← hCS]; have hcs : CS < 4294967296 := by rw [hCS, Crc.sum]; omega
  have hgs := HGS.out; rw [← hCS] at hgs; have HGS := Lib.hid hgs; have hcw : IntKind.u64.wrap (CS : Int) = (CS : Int) := IntWalk.u64_in _ (by omega); obtain ⟨W3, hW3⟩ : ∃ W3, W3 = w1.alloc (.cells #[.slice (some ⟨b, off, none⟩) m c] 28) := ⟨_, rfl⟩; rw [← hW3]; have hb3 : Below w1.heap.size w1 W3 := by rw [hW3]; exact (Below.refl _ _).alloc (Nat.le_refl _) _
  have hz3 := hb3.size; have G2 := Lib.hid ((hb3.block w.heap.size (by omega)).trans G2.out); have G4 := Lib.hid ((hb3.block (w.heap.size + 1) (by omega)).trans G4.out); have HB3 := Lib.hid (HB1.out.trans (hb3.mono (by omega))); clear hrd hfl hCS hgs hW3 hb3 a4 HB1
  by_cases hsc : SV = CS
  rotate_left
  · have hR0 : R = none := by rw [HGS.out, if_pos hsc]
    have t0 : ((SV : Int) != (CS : Int)) = true := by simp; omega
    have HR0 := Lib.hid hR0; clear HGS hR0 hsc; have f0 := frozen_of_row W3 w.heap.size 0 _ _ G2.out; have f1 := frozen_of_row W3 w.heap.size 1 _ _ G2.out; have f2 := frozen_of_row W3 w.heap.size 2 _ _ G2.out; have f3 := frozen_of_row W3 w.heap.size 3 _ _ G2.out; have f4 := frozen_of_row W3 w.heap.size 4 _ _ G2.out; have r0 : W3.cell? ⟨w.heap.size, 0, none⟩ = some (.int .i64 0) := cell_of_cells G2.out 0; have r1 : W3.cell? ⟨w.heap.size, 1, none⟩ = some (.int .i64 0) := cell_of_cells G2.out 1; have r2 : W3.cell? ⟨w.heap.size, 2, none⟩ = some (.slice none 0 0) := cell_of_cells G2.out 2; have r3 : W3.cell? ⟨w.heap.size, 3, none⟩ = some (.slice none 0 0) := cell_of_cells G2.out 3; have r4 : W3.cell? ⟨w.heap.size, 4, none⟩ = some (.slice none 0 0) := cell_of_cells G2.out 4
    go_wp2_with (first | ((with_reducible show (_ : Exit → Act → World → Prop) Exit.ret _ _); (try simp only [Exit.inBlock, Exit.then]); exact get_ret0 HR0.out G2.out HB3.out rfl rfl rfl) | fail)
  obtain rfl : SV = CS := hsc; have t0 : ((SV : Int) != (SV : Int)) = false := by simp
  have hgs := HGS.out; rw [if_neg (by simp)] at hgs; have HGS := Lib.hid hgs; clear hgs
  go_wp2_with fail
  obtain ⟨p7, hp7⟩ : ∃ p7, p7 = W3.heap.size := ⟨_, rfl⟩; obtain ⟨p4, hp4⟩ : ∃ p4, p4 = w.heap.size + 1 := ⟨_, rfl⟩; obtain ⟨W4, hW4⟩ : ∃ W4, W4 = (W3.alloc (.cells #[.int .i64 0] 3)).alloc (.cells #[.bool false] 4) := ⟨_, rfl⟩; rw [← hW4, ← hp7, ← hp4]; have hz4 : W4.heap.size = W3.heap.size + 2 := by rw [hW4]; simp
  have h47 : W4.heap[p7]? = some (.cells #[.int .i64 0] 3 (0, 0)) := by rw [hW4, hp7]; exact (Below.heap_alloc _ _ _ (by simp)).trans (heap_alloc_new W3 _)
  have h48 : W4.heap[p7 + 1]? = some (.cells #[.bool false] 4 (0, 0)) := by
    rw [hW4, hp7]; have := heap_alloc_new (W3.alloc (.cells #[.int .i64 0] 3)) (.cells #[.bool false] 4)
    rwa [World.size_alloc] at this
  have hb4 : Below W3.heap.size W3 W4 := by rw [hW4]; exact ((Below.refl _ _).alloc (Nat.le_refl _) _).alloc (by simp) _
  have HP : Hid (Ps w w.heap.size p4 p7 (p7 + 1)) := ⟨Nat.le_refl _, by omega, by omega, by omega⟩; have HG4 : Hid (GI (some ⟨b, off, none⟩) m c w W4 w.heap.size p4 p7 (p7 + 1) p00) := ⟨HB3.out.trans (hb4.mono (by omega)), (hb4.block _ (by omega)).trans G2.out, by rw [hp4]; exact (hb4.block _ (by omega)).trans G4.out, h47, h48⟩; have hp7b : p7 + 1 < W4.heap.size := by omega
  have hp47 : p4 < p7 := by omega
  clear hW4 h47 h48 hb4 G2 G4 HB3 hp7 hp4 hz4 hz1 hz3 hs2; refine (GI.next1 HP.out HRb.out HG4.out (by simp [p00])).mono ?_; rintro e5 w5 ⟨rfl, hG, hK⟩; have HG5 := Lib.hid hG; have hz5 := hK.size; obtain ⟨se, hse⟩ : ∃ se, se = rdV bd p00.at_ 1 := ⟨_, rfl⟩; rw [← hse]; have HSE := Lib.hid hse; clear hG hK hse HG4
  go_wp2_with fail
  refine (GI.next2 HP.out HRb.out HG5.out (by simp [p00, Pl.step])).mono ?_; rintro e6 w6 ⟨rfl, hG, hK⟩; have HG6 := Lib.hid hG; have hz6 := hK.size; obtain ⟨ep, hep⟩ : ∃ ep, ep = rdV bd (p00.step bd 1).at_ 2 := ⟨_, rfl⟩; rw [← hep]; have HEP := Lib.hid hep; clear hG hK hep HG5
  go_wp2_with fail
  obtain ⟨p10, hp10⟩ : ∃ p10, p10 = w6.heap.size := ⟨_, rfl⟩; obtain ⟨W7, hW7⟩ : ∃ W7, W7 = w6.alloc (.cells #[.int .i64 se, .int .i64 ep, .slice none 0 0, .slice none 0 0, .slice none 0 0] 26) := ⟨_, rfl⟩; rw [← hW7, ← hp10]; have hz7 : W7.heap.size = w6.heap.size + 1 := by rw [hW7]; simp
  have H10 : Hid (W7.heap[p10]? = some (.cells #[.int .i64 se, .int .i64 ep, .slice none 0 0, .slice none 0 0, .slice none 0 0] 26 (0, 0))) := by show _ = _; rw [hW7, hp10]; exact heap_alloc_new _ _
  have HG7 : Hid (GI (some ⟨b, off, none⟩) m c w W7 w.heap.size p4 p7 (p7 + 1) (p02 bd)) := HG6.out.kept HP.out (S := fun _ => False) (by rw [hW7]; exact (Kept.refl _ _).alloc _) (fun _ h => h.elim); have hp10b : p10 < W7.heap.size := by omega
  have hp87 : p7 + 1 < p10 := by omega
  clear hW7 HG6 hp10 hz7; refine (GI.next1 HP.out HRb.out HG7.out (by simp [p02, p00, Pl.step])).mono ?_; rintro e8 w8 ⟨rfl, hG, hK⟩; have HG8 := Lib.hid hG; have hz8 := hK.size; have H10 := Lib.hid ((hK.block p10 (by omega) (by omega)).trans H10.out); obtain ⟨N, hN⟩ : ∃ N, N = rdV bd (p02 bd).at_ 1 := ⟨_, rfl⟩; rw [← hN]; have hN256 : N < 256 := by rw [hN]; exact rdV_lt1 _ _
  have HR8 : Hid (R = cN bd se ep (pNx bd N ((p02 bd).step bd 1) [])) := by
    show R = _
    rw [HGS.out, parse, cN, hN, HSE.out, HEP.out]; rfl
  have HB0 : Hid (p10 + 1 ≤ w8.heap.size) := by show _ ≤ _; omega
  clear hG hK hN HG7 HGS HSE HEP
  go_wp2_with fail
  go_loopw [47] (fun i wr => ∃ (k : Nat) (pl : Pl) (A1 : Option Addr) (c1 : Nat) (nx : List Nx), i = .int .i64 k ∧ k ≤ N ∧ pl.at_ ≤ 4 + 3 * k ∧ Hid (nx.length = k ∧ p10 + 1 ≤ wr.heap.size ∧ GI (some ⟨b, off, none⟩) m c w wr w.heap.size p4 p7 (p7 + 1) pl ∧ wr.heap[p10]? = some (.cells #[.int .i64 se, .int .i64 ep, .slice A1 k c1, .slice none 0 0, .slice none 0 0] 26 (0, 0)) ∧ OwnE ENx 2 50 wr (p10 + 1) (.slice A1 k c1) nx ∧ R = cN bd se ep (pNx bd (N - k) pl nx))) (fun i _ => N - (intOf i).toNat)
  case atStart => exact ⟨0, (p02 bd).step bd 1, none, 0, [], rfl, Nat.zero_le _, by simp [p02, p00, Pl.step], rfl, HB0.out, HG8.out, H10.out, OwnE.nil _ _, HR8.out⟩
  case round =>
    obtain ⟨k, pl, A1, c1, nx, rfl, hk, hat, hnl, hBr, hGr, h10r, hOr, hRr⟩ := hrel; have HNL := Lib.hid hnl; have HGr := Lib.hid hGr; have H10r := Lib.hid h10r; have HOr := Lib.hid hOr; have HRr := Lib.hid hRr; clear hnl hGr h10r hOr hRr
    by_cases hlt : k < N
    · skip
      have hNS : NS (fun x q => GI (some ⟨b, off, none⟩) m c w x w.heap.size p4 p7 (p7 + 1) q) (fun q => q = p7 ∨ q = p7 + 1 ∨ q = p10 ∨ Value.ownBlock (.slice A1 k c1) = some q) (.slice A1 k c1) p10 p7 (p7 + 1) wr := ⟨fun _ _ _ _ hg hk hs => hg.kept HP.out hk hs, .inl rfl, .inr (.inl rfl), .inr (.inr (.inl rfl)), fun q hq => ⟨.inr (.inr (.inr hq)), by have := (HOr.out.lt q hq).1; omega, (HOr.out.lt q hq).2⟩, by omega, by omega, by omega⟩; have HNS := Lib.hid hNS; have hlb : (k : Int) < (N : Int) := by omega
      obtain ⟨xd, hxd⟩ : ∃ xd, xd = rdV bd pl.at_ 1 := ⟨_, rfl⟩; obtain ⟨xc, hxc⟩ : ∃ xc, xc = rdV bd (pl.step bd 1).at_ 2 := ⟨_, rfl⟩; have HXD := Lib.hid hxd; have HXC := Lib.hid hxc; have ha1 : pl.at_ ≤ 600000000000000 := by omega
      have ha2 : (pl.step bd 1).at_ ≤ 600000000000000 := by show pl.at_ + 1 ≤ _; omega
      have HV : Hid (R = cN bd se ep (pNx bd (N - (k + 1)) ((pl.step bd 1).step bd 2) (nx ++ [⟨xd, xc⟩]))) := by
        show R = _
        rw [HRr.out, show N - k = (N - (k + 1)) + 1 by omega, pNx, hxd, hxc]; rfl
      clear hNS hxd hxc HRr; have a2 : wr.cell? ⟨p10, 2, none⟩ = some (.slice A1 k c1) := cell_of_cells H10r.out 2
      go_wp2_with fail
      refine Free.wp_seq3 (I := fun L w' => NI (fun x q => GI (some ⟨b, off, none⟩) m c w x w.heap.size p4 p7 (p7 + 1) q) (fun q => q = p7 ∨ q = p7 + 1 ∨ q = p10 ∨ Value.ownBlock (.slice A1 k c1) = some q) (.slice A1 k c1) p10 wr pl (pl.step bd 1) ((pl.step bd 1).step bd 2) (L 3) (L 5) (L 8) (L 10) w') (Gr := fun j x y => NGr p7 (p7 + 1) p10 (.slice A1 k c1) 3 5 8 10 j x y) (by kernel_rfl) (by kernel_rfl) (NI.start HNS.out HGr.out) ?_; refine Free.Seq3.val ?_ (fun _ => NGr.refl _ _) (fun _ _ h => h) (fun a w1 L hI hp => ?_) ?_; rotate_left
      · have e10 := hp.sl 10; simp at e10; refine ⟨Free.wn, ?_⟩; clear hp; go_simp; rfl
      refine Free.Seq3.val ?_ (fun _ => NGr.refl _ _) (fun _ _ h => h) (fun a w1 L hI hp => ?_) ?_; rotate_left
      · have e49 := hp.b 0 0; have k2 : w1.cell? ⟨p10, 2, none⟩ = _ := (cell_block (hI.cell (hp.up 10 40 (by kernel_rfl))) 2).trans a2; refine ⟨Free.wn, ?_⟩; clear hp; go_simp; rfl
      refine Free.Seq3.val ?_ (fun _ => NGr.refl _ _) (fun _ _ h => h) (fun a w1 L hI hp => ?_) ?_; rotate_left
      · have e9 := hp.sl 9; simp at e9; refine ⟨Free.wn, ?_⟩; clear hp; go_simp; rfl
      refine Free.Seq3.call (T := Free.eqF (.int .i64 (xd : Int))) (fun _ _ _ _ _ _ h _ => h) (fun a w1 L hI hp => ?_) ?_
      · have e51 := hp.b 2 0; have h3 : L 3 = false := hp.fresh; have h5 : L 5 = false := hp.up 5 40 (by kernel_rfl); refine ⟨Free.wn, 33, #[.int .i64 1, .pointer (some ⟨p4, 0, none⟩), .pointer (some ⟨p7, 0, none⟩), .pointer (some ⟨p7 + 1, 0, none⟩)], ?_, ?_⟩
        · clear hp; go_simp
        · refine (GI.next1 HP.out HRb.out (hI.g0 h3) ha1).mono ?_; rintro e w' ⟨rfl, hg, hk⟩; exact ⟨_, rfl, by show _ = _; rw [HXD.out], hk.mono (fun i _ hi => .inl ⟨.inl rfl, hi⟩), hI.call1 HNS.out h5 hg hk⟩
      refine Free.Seq3.val ?_ (fun _ => NGr.refl _ _) (fun _ _ h => h) (fun a w1 L hI hp => ?_) ?_; rotate_left
      · have e9 := hp.sl 9; simp at e9; refine ⟨Free.wn, ?_⟩; clear hp; go_simp; rfl
      refine Free.Seq3.call (T := Free.eqF (.int .i64 (xc : Int))) (fun _ _ _ _ _ _ h _ => h) (fun a w1 L hI hp => ?_) ?_
      · have e53 := hp.b 4 0; have h3 : L 3 = true := hp.did 3 40 (by kernel_rfl); have h5 : L 5 = false := hp.fresh; refine ⟨Free.wn, 33, #[.int .i64 2, .pointer (some ⟨p4, 0, none⟩), .pointer (some ⟨p7, 0, none⟩), .pointer (some ⟨p7 + 1, 0, none⟩)], ?_, ?_⟩
        · clear hp; go_simp
        · refine (GI.next2 HP.out HRb.out (hI.g1 h3 h5) ha2).mono ?_; rintro e w' ⟨rfl, hg, hk⟩; exact ⟨_, rfl, by show _ = _; rw [HXC.out], hk.mono (fun i _ hi => .inl ⟨.inr rfl, hi⟩), hI.call2 HNS.out h3 hg hk⟩
      refine Free.Seq3.val ?_ (fun _ => NGr.refl _ _) (fun _ _ h => h) (fun a w1 L hI hp => ?_) ?_; rotate_left
      · have e52 := hp.b 3 2; have e54 := hp.b 5 0; refine ⟨Free.wn, ?_⟩; clear hp; go_simp; rfl
      refine Free.Seq3.op (T := fun v w' => ∃ p, v = .slice (some ⟨p, 0, none⟩) 1 1 ∧ wr.heap.size ≤ p ∧ w'.heap[p]? = some (.cells #[.int .i64 (xd : Int), .int .i64 (xc : Int)] 50 (0, 0))) (fun j hj hr v x y ⟨p, e, h1, h2⟩ hg => ⟨p, e, h1, (hg.new HNS.out h1 (Array.getElem?_eq_some_iff.1 h2).1).trans h2⟩) (fun a w1 L hI hp => ?_) ?_
      · have e55 := hp.b 6 0; have hsz := hI.kept.size; refine ⟨Free.wn, .slice (some ⟨w1.heap.size, 0, none⟩) 1 1, w1.alloc (.cells #[.int .i64 (xd : Int), .int .i64 (xc : Int)] 50), ?_, ⟨_, rfl, hsz, heap_alloc_new w1 _⟩, (Kept.refl _ _).alloc _, hI.grow HNS.out ((Below.refl _ _).alloc (Nat.le_refl _) _)⟩; clear hp hI; go_simp
      refine Free.Seq3.op (T := fun v w' => ∃ A5 c5, v = .slice A5 (k + 1) c5 ∧ OwnE ENx 2 50 w' (p10 + 1) (.slice A5 (k + 1) c5) (nx ++ [⟨(xd : Int), (xc : Int)⟩])) (fun j hj hr v x y ⟨A5, c5, e, h⟩ hg => ⟨A5, c5, e, hg.own HNS.out (staysX_nx _) (by decide) h hj⟩) (fun a w1 L hI hp => ?_) ?_
      · have e50 := hp.b 1 6; have h8 : L 8 = false := hp.fresh; have hsz := hI.kept.size; obtain ⟨p, e56, hp1, hp2⟩ := hp.back 7 0 rfl rfl rfl rfl rfl; obtain ⟨xs, ho1, ho2⟩ := HOr.out; have hO := row_keep ho1 (hI.row h8); obtain ⟨A5, c5, w5, hr, ho5, hg5, ha5⟩ := run_app (P := Try.prog) w1 elemNx 22 hO 1 (src_cells hp2 1 2 rfl (by simp [Value.oneCell'])) (N := k + 1) (by have := HNL.out; omega) (by omega) (by have := HNS.out.ltq; omega); have ho9 : w5.ownsRow (p10 + 1) 50 2 (.slice A5 (k + 1) c5) (nx.length + 1) (xs ++ [.int .i64 (xd : Int), .int .i64 (xc : Int)]) := by have := HNL.out; rw [this]; exact ho5
        refine ⟨Free.wn, .slice A5 (k + 1) c5, w5, Free.exec_app (.tmp 50) (.tmp 56) rfl (Free.eval_tmp e50) (Free.eval_tmp e56) hr, ⟨A5, c5, rfl, OwnE.snoc (staysX_nx _) hO (fun j x hj => ho2 j x hj) rfl rfl hg5 ho9⟩, (Kept.refl _ _).grown hg5 (fun z hz => .inl (.inr (.inl ⟨rfl, hz⟩))), hI.app HNS.out hg5⟩
      refine Free.Seq3.val ?_ (fun _ => NGr.refl _ _) (fun _ _ h => h) (fun a w1 L hI hp => ?_) ?_; rotate_left
      · have e10 := hp.sl 10; simp at e10; refine ⟨Free.wn, ?_⟩; clear hp; go_simp; rfl
      refine Free.Seq3.skip rfl (fun w' => ∃ A5 c5, w'.heap[p10]? = some (.cells #[.int .i64 (se : Int), .int .i64 (ep : Int), .slice A5 (k + 1) c5, .slice none 0 0, .slice none 0 0] 26 (0, 0)) ∧ OwnE ENx 2 50 w' (p10 + 1) (.slice A5 (k + 1) c5) (nx ++ [⟨(xd : Int), (xc : Int)⟩])) (fun j hj hr x y ⟨A5, c5, h, h'⟩ hg => ⟨A5, c5, (hg.cell HNS.out hj (Array.getElem?_eq_some_iff.1 h).1).trans h, hg.own HNS.out (staysX_nx _) (by decide) h' (fun hz => by have h9 := hr 40; rw [hz] at h9; exact absurd (h9.symm.trans (by kernel_rfl : _ = true)) (by decide))⟩) (fun a w1 L hI hp => ?_) ?_
      · have e58 := hp.b 9 0; obtain ⟨A5, c5, e57, ho5⟩ := hp.back 8 1 rfl rfl rfl rfl rfl; have h10 : L 10 = false := hp.fresh; have hb10 := (hI.cell h10).trans H10r.out; have kc := cell_of_cells hb10 2; have kf := frozen_of_row w1 p10 2 _ _ hb10; simp at kc; refine ⟨Free.wn, w1.setCell ⟨p10, 2, none⟩ (.slice A5 (k + 1) c5), ?_, ⟨A5, c5, ?_, ho5.keptK (staysX_nx _) (by decide) ((Kept.refl (fun z => z = p10) _).setCell (p := ⟨p10, 2, none⟩) (.inl rfl) _) (fun z hz => by omega)⟩, (Kept.refl _ _).setCell (p := ⟨p10, 2, none⟩) (.inl (.inr (.inr ⟨rfl, rfl⟩))) _, hI.sto HNS.out⟩
        · clear hp hI; go_simp
        · rw [heap_setCell_same w1 p10 2 _ _ _ hb10]; rfl
      refine Free.Seq3.done (by simp) (fun wz L hIz hLz => ?_); simp only [List.reverse_cons, List.reverse_nil, List.nil_append, List.cons_append, Free.All, Free.eqF, forall_eq]; rintro x56 - x57 - _ ⟨A9, c9, h9, ho9⟩; simp only [Free.putL, Act.put, List.setIfInBounds_toArray, List.set_cons_zero, List.set_cons_succ]; have HG9 := Lib.hid (hIz.g2 (hLz 5 (by decide))); have H9 := Lib.hid h9; have HO9 := Lib.hid ho9; have hz9 := hIz.kept.size; clear hIz hLz h9 ho9 a2
      dsimp only [Exit.inBlock, Exit.then]
      go_wp2_with fail
      exact ⟨⟨k + 1, (pl.step bd 1).step bd 2, A9, c9, nx ++ [⟨xd, xc⟩], by simp, by omega, by show pl.at_ + 1 + 2 ≤ _; omega, by rw [List.length_append, HNL.out]; rfl, by omega, HG9.out, H9.out, HO9.out, HV.out⟩, by simp only [intOf]; omega⟩
    · have hkN : k = N := by omega
      subst hkN; have HR4 : Hid (R = cH bd ⟨se, ep, nx, [], []⟩ (pHd bd (rdV bd pl.at_ 2) (pl.step bd 2) [])) := by
        show R = _
        rw [HRr.out, Nat.sub_self, pNx]; rfl
      clear HRr HR8 HG8 H10 HB0
      go_wp2_with fail
      refine (GI.next2 HP.out HRb.out HGr.out (by omega)).mono ?_; rintro e9 w9 ⟨rfl, hG, hK⟩; have HG9 := Lib.hid hG; have hz9 := hK.size; have H9 := Lib.hid ((hK.block p10 (by omega) (by omega)).trans H10r.out); have HO9 := Lib.hid (HOr.out.keptK (staysX_nx _) (by decide) hK (fun z hz => by omega)); obtain ⟨M, hM⟩ : ∃ M, M = rdV bd pl.at_ 2 := ⟨_, rfl⟩; have hM6 : M < 65536 := by rw [hM]; exact rdV_lt _ _ _ (Nat.le_refl _)
      rw [← hM] at HR4 ⊢; obtain ⟨plH, hplH⟩ : ∃ q, q = pl.step bd 2 := ⟨_, rfl⟩; rw [← hplH] at HR4 HG9; have hatH : plH.at_ ≤ m + 1000 := by rw [hplH]; show pl.at_ + 2 ≤ _; omega
      have HBH : Hid (p10 + 1 ≤ w9.heap.size) := by show _ ≤ _; omega
      obtain ⟨v1, hv1⟩ : ∃ v1, v1 = Value.slice A1 k c1 := ⟨_, rfl⟩; rw [← hv1] at H9 HO9; have HV1 := Lib.hid hv1; clear hG hK hM hplH HGr H10r HOr hat hv1 hz9
      go_wp2_with fail
      go_loopw [62] (fun i wr => ∃ (j : Nat) (pl : Pl) (A2 : Option Addr) (c2 : Nat) (hd : List Ms), i = .int .i64 j ∧ j ≤ M ∧ pl.at_ ≤ m + 1000 ∧ Hid (hd.length = j ∧ p10 + 1 ≤ wr.heap.size ∧ GI (some ⟨b, off, none⟩) m c w wr w.heap.size p4 p7 (p7 + 1) pl ∧ wr.heap[p10]? = some (.cells #[.int .i64 se, .int .i64 ep, v1, .slice A2 j c2, .slice none 0 0] 26 (0, 0)) ∧ OwnE ENx 2 50 wr (p10 + 1) v1 nx ∧ OwnE EMsO 5 54 wr (p10 + 1) (.slice A2 j c2) hd ∧ R = cH bd ⟨se, ep, nx, [], []⟩ (pHd bd (M - j) pl hd))) (fun i _ => M - (intOf i).toNat)
      case atStart => exact ⟨0, plH, none, 0, [], rfl, Nat.zero_le _, hatH, rfl, HBH.out, HG9.out, H9.out, HO9.out, OwnE.nil _ _, HR4.out⟩
      case round =>
        obtain ⟨j, pl, A2, c2, hd, rfl, hj, hat, hnl, hBr, hGr, h10r, hO1, hO2, hRr⟩ := hrel; have HNL2 := Lib.hid hnl; have HGr := Lib.hid hGr; have H10r := Lib.hid h10r; have HO1 := Lib.hid hO1; have HO2 := Lib.hid hO2; have HRr := Lib.hid hRr; clear hnl hGr h10r hO1 hO2 hRr
        by_cases hlt : j < M
        · skip
          have hlb : (j : Int) < (M : Int) := by omega
          go_wp2_with fail
          refine (GI.next1 HP.out HRb.out HGr.out (by omega)).mono ?_; rintro e5 w5 ⟨rfl, hG, hK⟩; have HG5 := Lib.hid hG; have hz5 := hK.size; have H5 := Lib.hid ((hK.block p10 (by omega) (by omega)).trans H10r.out); have HO1 := Lib.hid (HO1.out.keptK (staysX_nx _) (by decide) hK (fun z hz => by omega)); have HO2 := Lib.hid (HO2.out.keptK (staysX_ms (by decide)) (by decide) hK (fun z hz => by omega)); obtain ⟨n0, hn0⟩ : ∃ n0, n0 = rdV bd pl.at_ 1 := ⟨_, rfl⟩; have hn6 : n0 < 256 := by rw [hn0]; exact rdV_lt1 _ _
          obtain ⟨a, ha⟩ : ∃ a, a = (pl.step bd 1).at_ := ⟨_, rfl⟩; have hab : a ≤ m + 1001 := by rw [ha]; show pl.at_ + 1 ≤ _; omega
          obtain ⟨bb, hbb⟩ : ∃ bb, bb = (pl.step bd 1).bad := ⟨_, rfl⟩; have HR5 : Hid (R = cH bd ⟨se, ep, nx, [], []⟩ (if bb = true ∨ bd.length < a + n0 then none else pHd bd (M - (j + 1)) ⟨a + n0, false⟩ (hd ++ [gms ((bd.drop a).take n0)]))) := by
            show R = _
            rw [HRr.out, show M - j = (M - (j + 1)) + 1 by omega, pHd, ha, hbb, hn0]
          have HG2 := Lib.hid HG5.out.h2; have HGB := Lib.hid HG5.out.below; have HG4 := Lib.hid HG5.out.h4; have HG7 : Hid (w5.heap[p7]? = some (.cells #[.int .i64 (a : Int)] 3 (0, 0))) := by show _ = _; rw [ha]; exact HG5.out.h7
          have HG8 : Hid (w5.heap[p7 + 1]? = some (.cells #[.bool bb] 4 (0, 0))) := by show _ = _; rw [hbb]; exact HG5.out.h8
          rw [← hn0]; have a4 : w5.cell? ⟨p4, 0, none⟩ = some (.slice (some ⟨b, off, none⟩) m c) := cell_of_cells HG4.out 0; have a7 : w5.cell? ⟨p7, 0, none⟩ = some (.int .i64 (a : Int)) := cell_of_cells HG7.out 0; have a8 : w5.cell? ⟨p7 + 1, 0, none⟩ = some (.bool bb) := cell_of_cells HG8.out 0; clear hG hK hn0 ha hbb HRr HG5 HGr H10r; have hsb : IntKind.i64.wrap ((m : Int) - (a : Int)) = (m : Int) - (a : Int) := IntWalk.i64_in _ (by omega); have hR0 : (bb = true ∨ bd.length < a + n0) → Hid (R = none) := fun h => by
            show R = none
            rw [HR5.out, if_pos h]; rfl
          by_cases hbt : bb = true
          · subst hbt; have HR0 := hR0 (.inl rfl); clear hR0; have f0 := frozen_of_row w5 w.heap.size 0 _ _ HG2.out; have f1 := frozen_of_row w5 w.heap.size 1 _ _ HG2.out; have f2 := frozen_of_row w5 w.heap.size 2 _ _ HG2.out; have f3 := frozen_of_row w5 w.heap.size 3 _ _ HG2.out; have f4 := frozen_of_row w5 w.heap.size 4 _ _ HG2.out; have r0 : w5.cell? ⟨w.heap.size, 0, none⟩ = some (.int .i64 0) := cell_of_cells HG2.out 0; have r1 : w5.cell? ⟨w.heap.size, 1, none⟩ = some (.int .i64 0) := cell_of_cells HG2.out 1; have r2 : w5.cell? ⟨w.heap.size, 2, none⟩ = some (.slice none 0 0) := cell_of_cells HG2.out 2; have r3 : w5.cell? ⟨w.heap.size, 3, none⟩ = some (.slice none 0 0) := cell_of_cells HG2.out 3; have r4 : w5.cell? ⟨w.heap.size, 4, none⟩ = some (.slice none 0 0) := cell_of_cells HG2.out 4
            go_wp2_with (first | ((with_reducible show (_ : Exit → Act → World → Prop) Exit.ret _ _); (try simp only [Exit.inBlock, Exit.then]); exact get_ret0 HR0.out HG2.out HGB.out rfl rfl rfl) | fail)
          · obtain rfl : bb = false := by simpa using hbt
            clear hbt
            by_cases hma : m < a
            · have HR0 := hR0 (.inr (by have := HBL.out; omega)); have e1 : decide ((m : Int) < (a : Int)) = true := by simp; omega
              clear hR0; have f0 := frozen_of_row w5 w.heap.size 0 _ _ HG2.out; have f1 := frozen_of_row w5 w.heap.size 1 _ _ HG2.out; have f2 := frozen_of_row w5 w.heap.size 2 _ _ HG2.out; have f3 := frozen_of_row w5 w.heap.size 3 _ _ HG2.out; have f4 := frozen_of_row w5 w.heap.size 4 _ _ HG2.out; have r0 : w5.cell? ⟨w.heap.size, 0, none⟩ = some (.int .i64 0) := cell_of_cells HG2.out 0; have r1 : w5.cell? ⟨w.heap.size, 1, none⟩ = some (.int .i64 0) := cell_of_cells HG2.out 1; have r2 : w5.cell? ⟨w.heap.size, 2, none⟩ = some (.slice none 0 0) := cell_of_cells HG2.out 2; have r3 : w5.cell? ⟨w.heap.size, 3, none⟩ = some (.slice none 0 0) := cell_of_cells HG2.out 3; have r4 : w5.cell? ⟨w.heap.size, 4, none⟩ = some (.slice none 0 0) := cell_of_cells HG2.out 4
              go_wp2_with (first | ((with_reducible show (_ : Exit → Act → World → Prop) Exit.ret _ _); (try simp only [Exit.inBlock, Exit.then]); exact get_ret0 HR0.out HG2.out HGB.out rfl rfl rfl) | fail)
            · have e1 : decide ((m : Int) < (a : Int)) = false := by simp; omega
              by_cases hmn : m < a + n0
              · have HR0 := hR0 (.inr (by have := HBL.out; omega)); have e2 : decide ((m : Int) - (a : Int) < (n0 : Int)) = true := by simp; omega
                clear hR0; have f0 := frozen_of_row w5 w.heap.size 0 _ _ HG2.out; have f1 := frozen_of_row w5 w.heap.size 1 _ _ HG2.out; have f2 := frozen_of_row w5 w.heap.size 2 _ _ HG2.out; have f3 := frozen_of_row w5 w.heap.size 3 _ _ HG2.out; have f4 := frozen_of_row w5 w.heap.size 4 _ _ HG2.out; have r0 : w5.cell? ⟨w.heap.size, 0, none⟩ = some (.int .i64 0) := cell_of_cells HG2.out 0; have r1 : w5.cell? ⟨w.heap.size, 1, none⟩ = some (.int .i64 0) := cell_of_cells HG2.out 1; have r2 : w5.cell? ⟨w.heap.size, 2, none⟩ = some (.slice none 0 0) := cell_of_cells HG2.out 2; have r3 : w5.cell? ⟨w.heap.size, 3, none⟩ = some (.slice none 0 0) := cell_of_cells HG2.out 3; have r4 : w5.cell? ⟨w.heap.size, 4, none⟩ = some (.slice none 0 0) := cell_of_cells HG2.out 4
                go_wp2_with (first | ((with_reducible show (_ : Exit → Act → World → Prop) Exit.ret _ _); (try simp only [Exit.inBlock, Exit.then]); exact get_ret0 HR0.out HG2.out HGB.out rfl rfl rfl) | fail)
              · have e2 : decide ((m : Int) - (a : Int) < (n0 : Int)) = false := by simp; omega
                have hrr : R = cH bd ⟨se, ep, nx, [], []⟩ (pHd bd (M - (j + 1)) ⟨a + n0, false⟩ (hd ++ [gms ((bd.drop a).take n0)])) := by
                  rw [HR5.out, if_neg]; have := HBL.out; rintro (h | h)
                  · cases h
                  · omega
                have HR6 := Lib.hid hrr; clear hR0 HR5 hrr
                go_wp2_with fail
                have hq : Rd w5 (some ⟨b, off + a, none⟩) n0 (c - a) ((bd.drop a).take n0) := by
                  have h9 := ((HRb.out.below HGB.out).drop (k := a) (by omega)).take (k := n0) (by omega)
                  simpa [show ¬ c = a by omega, add_none] using h9
                refine (get_any _ n0 (c - a) _ w5 hq (by omega)).mono ?_; rintro e6 w6 ⟨A6, n6, c6, rfl, hn6, hs6, hb6⟩; obtain ⟨gm, hgm⟩ : ∃ gm, gm = gms ((bd.drop a).take n0) := ⟨_, rfl⟩; have hg1 : getM ((bd.drop a).take n0) = gm.i := by rw [hgm]; rfl
                have hg2 : getD' ((bd.drop a).take n0) = gm.l := by rw [hgm]; rfl
                rw [hg2] at hn6 hs6; rw [hg1]; rw [← hgm] at HR6; have hz6 := hb6.size; have HG6 : Hid (GI (some ⟨b, off, none⟩) m c w w6 w.heap.size p4 p7 (p7 + 1) ⟨a, false⟩) := ⟨HGB.out.trans (hb6.mono HGB.out.size), (hb6.block _ (Array.getElem?_eq_some_iff.1 HG2.out).1).trans HG2.out, (hb6.block _ (Array.getElem?_eq_some_iff.1 HG4.out).1).trans HG4.out, (hb6.block _ (Array.getElem?_eq_some_iff.1 HG7.out).1).trans HG7.out, (hb6.block _ (Array.getElem?_eq_some_iff.1 HG8.out).1).trans HG8.out⟩; have H6 := Lib.hid ((hb6.block p10 (by omega)).trans H5.out); have HO1 := Lib.hid (HO1.out.keptK (staysX_nx _) (by decide) (Kept.all (S := fun _ => False) hb6) (fun _ h => h.elim)); have HO2 := Lib.hid (HO2.out.keptK (staysX_ms (by decide)) (by decide) (Kept.all (S := fun _ => False) hb6) (fun _ h => h.elim)); have hl48 : gm.l.length ≤ 256 := by
                  rw [← hg2]; unfold getD'
                  split
                  · rw [List.length_drop, List.length_take]; omega
                  · simp
                have HE6 : Hid (EMsO w6 (p10 + 1) gm [.int .i64 gm.i.o, .int .i64 gm.i.d, .int .i64 gm.i.e, .int .i64 gm.i.c, .slice A6 n6 c6]) := ⟨A6, c6, by rw [hn6], by rw [← hn6]; exact hs6.base (fun q hq => by have := (hs6.lt q hq).1; omega), by omega⟩; have hb7 : w6.cell? ⟨p7, 0, none⟩ = some (.int .i64 (a : Int)) := by
                  rw [cell_of_cells HG6.out.h7]; rfl
                have hf7 : w6.frozen? ⟨p7, 0, none⟩ = false := frozen_of_row w6 p7 0 _ _ HG6.out.h7; have hbz : p7 < w6.heap.size := (Array.getElem?_eq_some_iff.1 HG6.out.h7).1; have hadd : IntKind.i64.wrap ((a : Int) + (n0 : Int)) = ((a + n0 : Nat) : Int) := by rw [IntWalk.i64_in _ (by omega)]; omega
                obtain ⟨gi, gl⟩ := gm; obtain ⟨io, id, ie, ic⟩ := gi; unfold msgv; clear hq hn6 hs6 hgm hg1 hg2 hb6 a4 a7 a8 HG2 HGB HG4 HG7 HG8 H5; simp only at HE6 hl48; have a10 : w6.cell? ⟨p10, 3, none⟩ = some (.slice A2 j c2) := by
                  rw [cell_of_cells H6.out]; rfl
                have hp10 : p10 < w6.heap.size := by omega
                have HN10 : Hid (¬ (p10 = p7 ∨ Value.ownBlock (.slice A2 j c2) = some p10)) := by
                  show ¬ _
                  rintro (e | e)
                  · omega
                  · have := (HO2.out.lt p10 e).1; omega
                go_wp2_with (first | ((with_reducible show wpList _ _ _ (⟨some 99, _, _, _, _, _⟩ :: _) _ _); refine wpList_more (S := fun i => i = p7) elemMs (staysX_ms (by decide)) (staysX_ms (by decide)) (by decide) HO2.out HNL2.out HE6.out rfl ((((Kept.refl (fun z => z = p7) w6).setCell (p := ⟨p7, 0, none⟩) (.inl rfl) _).alloc _).alloc _) (fun i hi => by omega) (by omega) (by omega) rfl (.tmp 96) (.tmp 98) rfl rfl rfl (Src.new' _ (w6.heap.size + 1) (by simp) [.int .i64 io, .int .i64 id, .int .i64 ie, .int .i64 ic, .slice A6 n6 c6] _ 1 5 rfl (by simp [Value.oneCell'])) ?_; intro A7 c7 w7 ho7 hx7 hk7 hl7; have HO7 := Lib.hid ho7; have HX7 := Lib.hid hx7; have HK7 := Lib.hid hk7; have b7 := (hl7 p7 (by omega)).trans ((Below.heap_alloc _ _ _ (by simp; omega)).trans ((Below.heap_alloc _ _ _ (by simpa using hbz)).trans (heap_setCell_same w6 p7 0 _ _ _ HG6.out.h7))); have b10 := (hk7.block p10 (by omega) HN10.out).trans H6.out; have HB7 := Lib.hid b7; have HB10 := Lib.hid b10; have k10 := cell_of_cells b10 3; have f10 := frozen_of_row w7 p10 3 _ _ b10; simp at k10; clear ho7 hx7 hk7 hl7 b7 b10) | fail)
                have hz7 := HK7.out.size; have hG7 : GI (some ⟨b, off, none⟩) m c w w7 w.heap.size p4 p7 (p7 + 1) ⟨a + n0, false⟩ := HG6.out.hop HP.out HK7.out (fun i hi => by
                  rcases hi with hi | hi
                  · exact .inl hi
                  · have := (HO2.out.lt i hi).1; exact .inr (by omega)) (by rw [HB7.out]; rfl)
                have hKS : Kept (fun z => z = p10) w7 (w7.setCell ⟨p10, 3, none⟩ (.slice A7 (j + 1) c7)) := (Kept.refl (fun z => z = p10) _).setCell (p := ⟨p10, 3, none⟩) (.inl rfl) _; refine ⟨⟨j + 1, ⟨a + n0, false⟩, A7, c7, hd ++ [⟨⟨io, id, ie, ic⟩, gl⟩], by simp, by omega, by show a + n0 ≤ _; omega, by rw [List.length_append, HNL2.out]; rfl, ?_, hG7.kept HP.out hKS (fun i hi => by omega), ?_, ?_, ?_, HR6.out⟩, by simp only [intOf]; omega⟩
                · have := hKS.size; omega
                · rw [heap_setCell_same w7 p10 3 _ _ _ HB10.out]; rfl
                · exact ((HO1.out.sameX (staysX_nx _) (by decide) HX7.out).keptK (staysX_nx _) (by decide) hKS (fun i hi => by omega))
                · exact (HO7.out.keptK (staysX_ms (by decide)) (by decide) hKS (fun i hi => by omega))
        · have hjM : j = M := by omega
          subst hjM; have HR7 : Hid (R = cS bd ⟨se, ep, nx, hd, []⟩ (pSn bd (rdV bd pl.at_ 2) (pl.step bd 2) [])) := by
            show R = _
            rw [HRr.out, Nat.sub_self, pHd]; rfl
          clear HRr HR4 HG9 H9 HO9 HBH
          go_wp2_with fail
          refine (GI.next2 HP.out HRb.out HGr.out (by omega)).mono ?_; rintro e9 w9 ⟨rfl, hG, hK⟩; have HG9 := Lib.hid hG; have hz9 := hK.size; have H9 := Lib.hid ((hK.block p10 (by omega) (by omega)).trans H10r.out); have HO9 := Lib.hid (HO1.out.keptK (staysX_nx _) (by decide) hK (fun z hz => by omega)); have HQ9 := Lib.hid (HO2.out.keptK (staysX_ms (by decide)) (by decide) hK (fun z hz => by omega)); obtain ⟨K, hKK⟩ : ∃ K, K = rdV bd pl.at_ 2 := ⟨_, rfl⟩; have hK6 : K < 65536 := by rw [hKK]; exact rdV_lt _ _ _ (Nat.le_refl _)
          rw [← hKK] at HR7 ⊢; obtain ⟨plS, hplS⟩ : ∃ q, q = pl.step bd 2 := ⟨_, rfl⟩; rw [← hplS] at HR7 HG9; have hatS : plS.at_ ≤ m + 1010 := by rw [hplS]; show pl.at_ + 2 ≤ _; omega
          have HBS : Hid (p10 + 1 ≤ w9.heap.size) := by show _ ≤ _; omega
          obtain ⟨v2, hv2⟩ : ∃ v2, v2 = Value.slice A2 j c2 := ⟨_, rfl⟩; rw [← hv2] at H9 HQ9; have HV2 := Lib.hid hv2; clear hG hK hKK hplS HGr H10r HO1 HO2 hat hv2 hz9
          go_wp2_with fail
          go_loopw [104] (fun i wr => ∃ (z : Nat) (pl : Pl) (A3 : Option Addr) (c3 : Nat) (sn : List Mk), i = .int .i64 z ∧ z ≤ K ∧ pl.at_ ≤ m + 1010 ∧ Hid (sn.length = z ∧ p10 + 1 ≤ wr.heap.size ∧ GI (some ⟨b, off, none⟩) m c w wr w.heap.size p4 p7 (p7 + 1) pl ∧ wr.heap[p10]? = some (.cells #[.int .i64 se, .int .i64 ep, v1, v2, .slice A3 z c3] 26 (0, 0)) ∧ OwnE ENx 2 50 wr (p10 + 1) v1 nx ∧ OwnE EMsO 5 54 wr (p10 + 1) v2 hd ∧ OwnE EMkO 4 58 wr (p10 + 1) (.slice A3 z c3) sn ∧ R = cS bd ⟨se, ep, nx, hd, []⟩ (pSn bd (K - z) pl sn))) (fun i _ => K - (intOf i).toNat)
          case atStart => exact ⟨0, plS, none, 0, [], rfl, Nat.zero_le _, hatS, rfl, HBS.out, HG9.out, H9.out, HO9.out, HQ9.out, OwnE.nil _ _, HR7.out⟩
          case round =>
            obtain ⟨z, pl, A3, c3, sn, rfl, hz, hat, hnl, hBr, hGr, h10r, hO1, hO2, hO3, hRr⟩ := hrel; have HNL3 := Lib.hid hnl; have HGr := Lib.hid hGr; have H10r := Lib.hid h10r; have HO1 := Lib.hid hO1; have HO2 := Lib.hid hO2; have HO3 := Lib.hid hO3; have HRr := Lib.hid hRr; clear hnl hGr h10r hO1 hO2 hO3 hRr
            by_cases hlt : z < K
            · skip
              have hlb : (z : Int) < (K : Int) := by omega
              go_wp2_with fail
              refine (GI.next1 HP.out HRb.out HGr.out (by omega)).mono ?_; rintro e5 w5 ⟨rfl, hG, hK⟩; have HG5 := Lib.hid hG; have HK5 := Lib.hid hK; have hz5 := hK.size; clear hG hK
              go_wp2_with fail
              refine (GI.next2 HP.out HRb.out HG5.out (by show pl.at_ + 1 ≤ _; omega)).mono ?_; rintro e6 w6 ⟨rfl, hG, hK⟩; have HG6 := Lib.hid hG; have HK6 := Lib.hid (HK5.out.trans hK (fun _ _ h => h)); have hz6 := hK.size; clear hG hK
              go_wp2_with fail
              refine (GI.next2 HP.out HRb.out HG6.out (by show pl.at_ + 1 + 2 ≤ _; omega)).mono ?_; rintro e7 w7 ⟨rfl, hG, hK⟩; have HG7 := Lib.hid hG; have HK7 := Lib.hid (HK6.out.trans hK (fun _ _ h => h)); have hz7 := hK.size; obtain ⟨xo, hxo⟩ : ∃ x, x = rdV bd pl.at_ 1 := ⟨_, rfl⟩; obtain ⟨xe, hxe⟩ : ∃ x, x = rdV bd (pl.step bd 1).at_ 2 := ⟨_, rfl⟩; obtain ⟨xu, hxu⟩ : ∃ x, x = rdV bd ((pl.step bd 1).step bd 2).at_ 2 := ⟨_, rfl⟩; rw [← hxo, ← hxe, ← hxu]; have HXO := Lib.hid hxo; have HXE := Lib.hid hxe; have HXU := Lib.hid hxu; have H7 := Lib.hid ((HK7.out.block p10 (by omega) (by omega)).trans H10r.out); have HO1 := Lib.hid (HO1.out.keptK (staysX_nx _) (by decide) HK7.out (fun z hz => by omega)); have HO2 := Lib.hid (HO2.out.keptK (staysX_ms (by decide)) (by decide) HK7.out (fun z hz => by omega)); have HO3 := Lib.hid (HO3.out.keptK (staysX_mk (by decide)) (by decide) HK7.out (fun z hz => by omega)); clear hG hK hxo hxe hxu HG5 HG6 HGr HK5 HK6 HK7 H10r
              go_wp2_with fail
              obtain ⟨p14, hp14⟩ : ∃ p14, p14 = w7.heap.size := ⟨_, rfl⟩; obtain ⟨W8, hW8⟩ : ∃ W8, W8 = w7.alloc (.cells #[.int .i64 xo, .int .i64 xe, .int .i64 xu, .slice none 0 0] 58) := ⟨_, rfl⟩; rw [← hW8, ← hp14]; have hz8 : w7.heap.size < W8.heap.size := by rw [hW8]; simp
              have H14 : Hid (W8.heap[p14]? = some (.cells #[.int .i64 xo, .int .i64 xe, .int .i64 xu, .slice none 0 0] 58 (0, 0))) := by show _ = _; rw [hW8, hp14]; exact heap_alloc_new _ _
              have hb8 : Below w7.heap.size w7 W8 := by rw [hW8]; exact (Below.refl _ _).alloc (Nat.le_refl _) _
              have HK8 : Hid (Kept (fun i => i = p7 ∨ i = p7 + 1) w7 W8) := Kept.all hb8; have HG8 : Hid (GI (some ⟨b, off, none⟩) m c w W8 w.heap.size p4 p7 (p7 + 1) (pM3 bd pl)) := HG7.out.kept HP.out (S := fun _ => False) (Kept.all hb8) (fun _ h => h.elim); have HP14 : Hid (p14 = w7.heap.size) := hp14; have hp14a : p14 < W8.heap.size := by omega
              have hp14b : p10 < p14 := by omega
              clear hW8 hb8 hp14 HG7; refine (GI.next2 HP.out HRb.out HG8.out (by show pl.at_ + 1 + 2 + 2 ≤ _; omega)).mono ?_; rintro e9 w9 ⟨rfl, hG, hK⟩; have HG9 := Lib.hid hG; have hz9 := hK.size; have HK9 := Lib.hid (HK8.out.trans hK (fun _ _ h => h)); have H14 := Lib.hid ((hK.block p14 (by omega) (by omega)).trans H14.out); obtain ⟨n0, hn0⟩ : ∃ x, x = rdV bd (pM3 bd pl).at_ 2 := ⟨_, rfl⟩; have hn06 : n0 < 65536 := by rw [hn0]; exact rdV_lt _ _ _ (Nat.le_refl _)
              rw [← hn0]; have HN0 := Lib.hid hn0; have hba : ∀ (q : Pl) (k : Nat), (q.step bd k).bad = false → (q.step bd k).at_ ≤ m := fun q k h => by have := (step_ok h).2; have h9 := HBL.out; show q.at_ + k ≤ m; omega
              have HBA := Lib.hid hba; have h9b : p14 < w9.heap.size := by omega
              clear hG hK hn0 HG8 HK8 hba
              go_wp2_with fail
              go_loopw [15] (fun i wr => ∃ (r : Nat) (q : Pl) (A4 : Option Addr) (n4 c4 : Nat) (ms : List Int), i = .int .i64 r ∧ r ≤ n0 ∧ n4 ≤ n0 ∧ q.at_ ≤ m + 1100 ∧ Hid (ms.length = n4 ∧ n4 + r = n0 ∧ (q.bad = false → q.at_ ≤ m) ∧ p14 < wr.heap.size ∧ GI (some ⟨b, off, none⟩) m c w wr w.heap.size p4 p7 (p7 + 1) q ∧ wr.heap[p14]? = some (.cells #[.int .i64 xo, .int .i64 xe, .int .i64 xu, .slice A4 n4 c4] 58 (0, 0)) ∧ OwnE EInt 1 3 wr (p14 + 1) (.slice A4 n4 c4) ms ∧ Kept (fun i => i = p7 ∨ i = p7 + 1) w7 wr ∧ pMo bd n0 (pM4 bd pl) [] = pMo bd r q ms)) (fun i _ => (intOf i).toNat)
              case atStart => exact ⟨n0, pM4 bd pl, none, 0, 0, [], rfl, Nat.le_refl _, Nat.zero_le _, by show pl.at_ + 1 + 2 + 2 + 2 ≤ _; omega, rfl, by omega, HBA.out _ _, h9b, HG9.out, H14.out, OwnE.nil _ _, HK9.out, rfl⟩
              case round =>
                obtain ⟨r, q, A4, n4, c4, ms, rfl, hr, hn4, hqa, hml, hnr, hqb, hps, hGq, h14r, hOq, hKq, hPq⟩ := hrel; have HNL := Lib.hid hml; have HNR := Lib.hid hnr; have HQB := Lib.hid hqb; have HGr := Lib.hid hGq; have H14r := Lib.hid h14r; have HOr := Lib.hid hOq; have HKr := Lib.hid hKq; have HPr := Lib.hid hPq; obtain ⟨bb, hbb⟩ : ∃ bb, bb = q.bad := ⟨_, rfl⟩; have HBB := Lib.hid hbb; have a8 : wr.cell? ⟨p7 + 1, 0, none⟩ = some (.bool bb) := by
                  rw [hbb, cell_of_cells HGr.out.h8]; rfl
                have hb8 : p7 + 1 < wr.heap.size := (Array.getElem?_eq_some_iff.1 HGr.out.h8).1; clear hml hnr hqb hGq h14r hOq hKq hPq hbb
                by_cases hgo : 0 < r ∧ bb = false
                · skip
                  obtain ⟨h0, rfl⟩ := hgo; have hq : q.at_ ≤ m := HQB.out HBB.out.symm; have hlb0 : (0 : Int) < (r : Int) := by omega
                  have hNS : NS (fun x q => GI (some ⟨b, off, none⟩) m c w x w.heap.size p4 p7 (p7 + 1) q) (fun q => q = p7 ∨ q = p7 + 1 ∨ q = p14 ∨ Value.ownBlock (.slice A4 n4 c4) = some q) (.slice A4 n4 c4) p14 p7 (p7 + 1) wr := ⟨fun _ _ _ _ hg hk hs => hg.kept HP.out hk hs, .inl rfl, .inr (.inl rfl), .inr (.inr (.inl rfl)), fun q hq => ⟨.inr (.inr (.inr hq)), by have := (HOr.out.lt q hq).1; omega, (HOr.out.lt q hq).2⟩, by omega, by omega, hps⟩; have HNS := Lib.hid hNS; obtain ⟨xn, hxn⟩ : ∃ x, x = rdV bd q.at_ 2 := ⟨_, rfl⟩; have HXN := Lib.hid hxn; have ha1 : q.at_ ≤ 600000000000000 := by omega
                  have HPV : Hid (pMo bd n0 (pM4 bd pl) [] = pMo bd (r - 1) (q.step bd 2) (ms ++ [(xn : Int)])) := by
                    show _ = _
                    rw [HPr.out, show r = (r - 1) + 1 by omega, pMo, if_neg (by rw [← HBB.out]; simp), hxn]; rfl
                  have a3 : wr.cell? ⟨p14, 3, none⟩ = some (.slice A4 n4 c4) := cell_of_cells H14r.out 3; clear hNS hxn HPr
                  go_wp2_with fail
                  refine Free.wp_seq3 (I := fun L w' => NI (fun x q => GI (some ⟨b, off, none⟩) m c w x w.heap.size p4 p7 (p7 + 1) q) (fun q => q = p7 ∨ q = p7 + 1 ∨ q = p14 ∨ Value.ownBlock (.slice A4 n4 c4) = some q) (.slice A4 n4 c4) p14 wr q (q.step bd 2) (q.step bd 2) (L 3) false (L 5) (L 7) w') (Gr := fun j x y => NGr p7 (p7 + 1) p14 (.slice A4 n4 c4) 3 1000 5 7 j x y) (by kernel_rfl) (by kernel_rfl) (NI.start HNS.out HGr.out) ?_; refine Free.Seq3.val ?_ (fun _ => NGr.refl _ _) (fun _ _ h => h) (fun a w1 L hI hp => ?_) ?_; rotate_left
                  · have e14 := hp.sl 14; simp at e14; refine ⟨Free.wn, ?_⟩; clear hp; go_simp; rfl
                  refine Free.Seq3.val ?_ (fun _ => NGr.refl _ _) (fun _ _ h => h) (fun a w1 L hI hp => ?_) ?_; rotate_left
                  · have e123 := hp.b 0 0; have k3 : w1.cell? ⟨p14, 3, none⟩ = _ := (cell_block (hI.cell (hp.up 7 40 (by kernel_rfl))) 3).trans a3; refine ⟨Free.wn, ?_⟩; clear hp; go_simp; rfl
                  refine Free.Seq3.val ?_ (fun _ => NGr.refl _ _) (fun _ _ h => h) (fun a w1 L hI hp => ?_) ?_; rotate_left
                  · have e9 := hp.sl 9; simp at e9; refine ⟨Free.wn, ?_⟩; clear hp; go_simp; rfl
                  refine Free.Seq3.call (T := Free.eqF (.int .i64 (xn : Int))) (fun _ _ _ _ _ _ h _ => h) (fun a w1 L hI hp => ?_) ?_
                  · have e125 := hp.b 2 0; have h3 : L 3 = false := hp.fresh; refine ⟨Free.wn, 33, #[.int .i64 2, .pointer (some ⟨p4, 0, none⟩), .pointer (some ⟨p7, 0, none⟩), .pointer (some ⟨p7 + 1, 0, none⟩)], ?_, ?_⟩
                    · clear hp; go_simp
                    · refine (GI.next2 HP.out HRb.out (hI.g0 h3) ha1).mono ?_; rintro e w' ⟨rfl, hg, hk⟩; exact ⟨_, rfl, by show _ = _; rw [HXN.out], hk.mono (fun i _ hi => .inl ⟨.inl rfl, hi⟩), hI.call1 HNS.out rfl hg hk⟩
                  refine Free.Seq3.op (T := fun v w' => ∃ p, v = .slice (some ⟨p, 0, none⟩) 1 1 ∧ wr.heap.size ≤ p ∧ w'.heap[p]? = some (.cells #[.int .i64 (xn : Int)] 3 (0, 0))) (fun j hj hr v x y ⟨p, e, h1, h2⟩ hg => ⟨p, e, h1, (hg.new HNS.out h1 (Array.getElem?_eq_some_iff.1 h2).1).trans h2⟩) (fun a w1 L hI hp => ?_) ?_
                  · have e126 := hp.b 3 0; have hsz := hI.kept.size; refine ⟨Free.wn, .slice (some ⟨w1.heap.size, 0, none⟩) 1 1, w1.alloc (.cells #[.int .i64 (xn : Int)] 3), ?_, ⟨_, rfl, hsz, heap_alloc_new w1 _⟩, (Kept.refl _ _).alloc _, hI.grow HNS.out ((Below.refl _ _).alloc (Nat.le_refl _) _)⟩; clear hp hI; go_simp
                  refine Free.Seq3.op (T := fun v w' => ∃ A5 c5, v = .slice A5 (n4 + 1) c5 ∧ OwnE EInt 1 3 w' (p14 + 1) (.slice A5 (n4 + 1) c5) (ms ++ [(xn : Int)])) (fun j hj hr v x y ⟨A5, c5, e, h⟩ hg => ⟨A5, c5, e, hg.own HNS.out keeps_ints (by decide) h hj⟩) (fun a w1 L hI hp => ?_) ?_
                  · have e124 := hp.b 1 3; have h8 : L 5 = false := hp.fresh; have hsz := hI.kept.size; obtain ⟨p, e127, hp1, hp2⟩ := hp.back 4 0 rfl rfl rfl rfl rfl; obtain ⟨xs, ho1, ho2⟩ := HOr.out; have hO := row_keep ho1 (hI.row h8); obtain ⟨A5, c5, w5, hr, ho5, hg5, ha5⟩ := run_app (P := Try.prog) w1 elemI 56 hO 1 (src_cells hp2 1 1 rfl (by simp [Value.oneCell'])) (N := n4 + 1) (by have := HNL.out; omega) (by omega) (by have := HNS.out.ltq; omega); have ho9 : w5.ownsRow (p14 + 1) 3 1 (.slice A5 (n4 + 1) c5) (ms.length + 1) (xs ++ [.int .i64 (xn : Int)]) := by have := HNL.out; rw [this]; exact ho5
                    refine ⟨Free.wn, .slice A5 (n4 + 1) c5, w5, Free.exec_app (.tmp 124) (.tmp 127) rfl (Free.eval_tmp e124) (Free.eval_tmp e127) hr, ⟨A5, c5, rfl, OwnE.snoc keeps_ints hO (fun j x hj => ho2 j x hj) rfl rfl hg5 ho9⟩, (Kept.refl _ _).grown hg5 (fun z hz => .inl (.inr (.inl ⟨rfl, hz⟩))), hI.app HNS.out hg5⟩
                  refine Free.Seq3.val ?_ (fun _ => NGr.refl _ _) (fun _ _ h => h) (fun a w1 L hI hp => ?_) ?_; rotate_left
                  · have e14 := hp.sl 14; simp at e14; refine ⟨Free.wn, ?_⟩; clear hp; go_simp; rfl
                  refine Free.Seq3.skip rfl (fun w' => ∃ A5 c5, w'.heap[p14]? = some (.cells #[.int .i64 (xo : Int), .int .i64 (xe : Int), .int .i64 (xu : Int), .slice A5 (n4 + 1) c5] 58 (0, 0)) ∧ OwnE EInt 1 3 w' (p14 + 1) (.slice A5 (n4 + 1) c5) (ms ++ [(xn : Int)])) (fun j hj hr x y ⟨A5, c5, h, h'⟩ hg => ⟨A5, c5, (hg.cell HNS.out hj (Array.getElem?_eq_some_iff.1 h).1).trans h, hg.own HNS.out keeps_ints (by decide) h' (fun hz => by have h9 := hr 40; rw [hz] at h9; exact absurd (h9.symm.trans (by kernel_rfl : _ = true)) (by decide))⟩) (fun a w1 L hI hp => ?_) ?_
                  · have e129 := hp.b 6 0; obtain ⟨A5, c5, e128, ho5⟩ := hp.back 5 1 rfl rfl rfl rfl rfl; have h10 : L 7 = false := hp.fresh; have hb10 := (hI.cell h10).trans H14r.out; have kc := cell_of_cells hb10 3; have kf := frozen_of_row w1 p14 3 _ _ hb10; simp at kc; refine ⟨Free.wn, w1.setCell ⟨p14, 3, none⟩ (.slice A5 (n4 + 1) c5), ?_, ⟨A5, c5, ?_, ho5.keptK keeps_ints (by decide) ((Kept.refl (fun z => z = p14) _).setCell (p := ⟨p14, 3, none⟩) (.inl rfl) _) (fun z hz => by omega)⟩, (Kept.refl _ _).setCell (p := ⟨p14, 3, none⟩) (.inl (.inr (.inr ⟨rfl, rfl⟩))) _, hI.sto HNS.out⟩
                    · clear hp hI; go_simp
                    · rw [heap_setCell_same w1 p14 3 _ _ _ hb10]; rfl
                  refine Free.Seq3.done (by simp) (fun wz L hIz hLz => ?_); simp only [List.reverse_cons, List.reverse_nil, List.nil_append, List.cons_append, Free.All, Free.eqF, forall_eq]; rintro x127 - x128 - _ ⟨A9, c9, h9, ho9⟩; simp only [Free.putL, Act.put, List.setIfInBounds_toArray, List.set_cons_zero, List.set_cons_succ]; have HG10 := Lib.hid (hIz.g1 (hLz 3 (by decide)) rfl); have H10 := Lib.hid h9; have HO10 := Lib.hid ho9; have hz10 := hIz.kept.size; have HK10 : Hid (Kept (fun i => i = p7 ∨ i = p7 + 1) w7 wz) := HKr.out.trans hIz.kept (fun i hi hs => by
                    rcases hs with hs | hs | hs | hs
                    · exact .inl hs
                    · exact .inr hs
                    · have := HP14.out; omega
                    · have := (HOr.out.lt i hs).1; have := HP14.out; omega)
                  clear hIz hLz h9 ho9 a3
                  dsimp only [Exit.inBlock, Exit.then]
                  go_wp2_with fail
                  exact ⟨⟨r - 1, q.step bd 2, A9, n4 + 1, c9, ms ++ [(xn : Int)], by congr 1; omega, by omega, by have := HNR.out; omega, by show q.at_ + 2 ≤ _; omega, by rw [List.length_append, HNL.out]; rfl, by have := HNR.out; omega, fun h => HBA.out _ _ h, by omega, HG10.out, H10.out, HO10.out, HK10.out, HPV.out⟩, by simp only [intOf]; omega⟩
                · skip
                  have hpm : pMo bd n0 (pM4 bd pl) [] = (q, ms) := by
                    rw [HPr.out]
                    cases r with
                    | zero => rfl
                    | succ r' =>
                      have hb : q.bad = true := by
                        rw [← HBB.out]
                        by_cases h : bb = true
                        · exact h
                        · exact absurd ⟨by omega, by simpa using h⟩ hgo
                      rw [pMo, if_pos hb]
                  have hmk : pMk bd pl = (q, ⟨xo, xe, xu, ms⟩) := by
                    show ((pMo bd (rdV bd (pM3 bd pl).at_ 2) (pM4 bd pl) []).1, Mk.mk (rdV bd pl.at_ 1 : Nat) (rdV bd (pl.step bd 1).at_ 2 : Nat) (rdV bd ((pl.step bd 1).step bd 2).at_ 2 : Nat) (pMo bd (rdV bd (pM3 bd pl).at_ 2) (pM4 bd pl) []).2) = _
                    rw [← HN0.out, hpm, ← HXO.out, ← HXE.out, ← HXU.out]
                  have hrk : R = cS bd ⟨se, ep, nx, hd, []⟩ (if bb = true then none else pSn bd (K - (z + 1)) q (sn ++ [⟨xo, xe, xu, ms⟩])) := by
                    rw [HRr.out, show K - z = (K - (z + 1)) + 1 by omega, pSn, hmk, HBB.out]
                  have HRK := Lib.hid hrk; have HG2 := Lib.hid HGr.out.h2; have HGB := Lib.hid HGr.out.below; clear hpm hmk hrk HPr HRr
                  by_cases hbt : bb = true
                  · subst hbt; have HR0 : Hid (R = none) := by
                      show R = none
                      rw [HRK.out, if_pos rfl]; rfl
                    rcases Nat.eq_zero_or_pos r with rfl | hr0
                    · skip
                      have f0 := frozen_of_row wr w.heap.size 0 _ _ HG2.out; have f1 := frozen_of_row wr w.heap.size 1 _ _ HG2.out; have f2 := frozen_of_row wr w.heap.size 2 _ _ HG2.out; have f3 := frozen_of_row wr w.heap.size 3 _ _ HG2.out; have f4 := frozen_of_row wr w.heap.size 4 _ _ HG2.out; have r0 : wr.cell? ⟨w.heap.size, 0, none⟩ = some (.int .i64 0) := cell_of_cells HG2.out 0; have r1 : wr.cell? ⟨w.heap.size, 1, none⟩ = some (.int .i64 0) := cell_of_cells HG2.out 1; have r2 : wr.cell? ⟨w.heap.size, 2, none⟩ = some (.slice none 0 0) := cell_of_cells HG2.out 2; have r3 : wr.cell? ⟨w.heap.size, 3, none⟩ = some (.slice none 0 0) := cell_of_cells HG2.out 3; have r4 : wr.cell? ⟨w.heap.size, 4, none⟩ = some (.slice none 0 0) := cell_of_cells HG2.out 4
                      go_wp2_with (first | ((with_reducible show (_ : Exit → Act → World → Prop) Exit.ret _ _); (try simp only [Exit.inBlock, Exit.then]); exact get_ret0 HR0.out HG2.out HGB.out rfl rfl rfl) | fail)
                    · have hlb0 : (0 : Int) < (r : Int) := by omega
                      have f0 := frozen_of_row wr w.heap.size 0 _ _ HG2.out; have f1 := frozen_of_row wr w.heap.size 1 _ _ HG2.out; have f2 := frozen_of_row wr w.heap.size 2 _ _ HG2.out; have f3 := frozen_of_row wr w.heap.size 3 _ _ HG2.out; have f4 := frozen_of_row wr w.heap.size 4 _ _ HG2.out; have r0 : wr.cell? ⟨w.heap.size, 0, none⟩ = some (.int .i64 0) := cell_of_cells HG2.out 0; have r1 : wr.cell? ⟨w.heap.size, 1, none⟩ = some (.int .i64 0) := cell_of_cells HG2.out 1; have r2 : wr.cell? ⟨w.heap.size, 2, none⟩ = some (.slice none 0 0) := cell_of_cells HG2.out 2; have r3 : wr.cell? ⟨w.heap.size, 3, none⟩ = some (.slice none 0 0) := cell_of_cells HG2.out 3; have r4 : wr.cell? ⟨w.heap.size, 4, none⟩ = some (.slice none 0 0) := cell_of_cells HG2.out 4
                      go_wp2_with (first | ((with_reducible show (_ : Exit → Act → World → Prop) Exit.ret _ _); (try simp only [Exit.inBlock, Exit.then]); exact get_ret0 HR0.out HG2.out HGB.out rfl rfl rfl) | fail)
                  · obtain rfl : bb = false := by simpa using hbt
                    obtain rfl : r = 0 := by
                      rcases Nat.eq_zero_or_pos r with h | h
                      · exact h
                      · exact absurd ⟨h, rfl⟩ hgo
                    have hrr : R = cS bd ⟨se, ep, nx, hd, []⟩ (pSn bd (K - (z + 1)) q (sn ++ [⟨xo, xe, xu, ms⟩])) := by
                      rw [HRK.out, if_neg (by simp)]
                    have HR9 := Lib.hid hrr; have hq : q.at_ ≤ m := HQB.out HBB.out.symm; have hsz := HKr.out.size; have H10r := Lib.hid ((HKr.out.block p10 (by omega) (by omega)).trans H7.out); have HO1 := Lib.hid (HO1.out.keptK (staysX_nx _) (by decide) HKr.out (fun z hz => by omega)); have HO2 := Lib.hid (HO2.out.keptK (staysX_ms (by decide)) (by decide) HKr.out (fun z hz => by omega)); have HO3 := Lib.hid (HO3.out.keptK (staysX_mk (by decide)) (by decide) HKr.out (fun z hz => by omega)); have HE : Hid (EMkO wr (p10 + 1) ⟨xo, xe, xu, ms⟩ [.int .i64 xo, .int .i64 xe, .int .i64 xu, .slice A4 n4 c4]) := by
                      refine ⟨A4, c4, by rw [HNL.out], ?_, by have := HNL.out; show ms.length ≤ _; omega⟩; have h := own_ints HOr.out; rw [HNL.out] at h
                      show World.ownsRow wr (p10 + 1) 3 1 (.slice A4 ms.length c4) ms.length (is64 ms)
                      rw [HNL.out]; exact row_base6 h (by omega)
                    have a0 : wr.cell? ⟨p14, 0, none⟩ = some (.int .i64 xo) := cell_of_cells H14r.out 0; have a1 : wr.cell? ⟨p14, 1, none⟩ = some (.int .i64 xe) := cell_of_cells H14r.out 1; have a2 : wr.cell? ⟨p14, 2, none⟩ = some (.int .i64 xu) := cell_of_cells H14r.out 2; have a3 : wr.cell? ⟨p14, 3, none⟩ = some (.slice A4 n4 c4) := cell_of_cells H14r.out 3; have a10 : wr.cell? ⟨p10, 4, none⟩ = some (.slice A3 z c3) := by
                      rw [cell_of_cells H10r.out]; rfl
                    have hp10 : p10 < wr.heap.size := by omega
                    have HN10 : Hid (¬ (False ∨ Value.ownBlock (.slice A3 z c3) = some p10)) := by
                      show ¬ _
                      rintro (e | e)
                      · exact e
                      · have := (HO3.out.lt p10 e).1; omega
                    clear hrr hgo hbt HRK H7
                    go_wp2_with (first | ((with_reducible show wpList _ _ _ (⟨some 136, _, _, _, _, _⟩ :: _) _ _); refine wpList_more (S := fun _ => False) elemMk (staysX_mk (by decide)) (staysX_mk (by decide)) (by decide) HO3.out HNL3.out HE.out rfl ((Kept.refl (fun _ => False) wr).alloc _) (fun i hi => hi.elim) (by omega) (by omega) rfl (.tmp 133) (.tmp 135) rfl rfl rfl (Src.new' _ _ rfl [.int .i64 xo, .int .i64 xe, .int .i64 xu, .slice A4 n4 c4] _ 1 4 rfl (by simp [Value.oneCell'])) ?_; intro A7 c7 w8 ho7 hx7 hk7 hl7; have HO7 := Lib.hid ho7; have HX7 := Lib.hid hx7; have HK7 := Lib.hid hk7; have b10 := (hk7.block p10 (by omega) HN10.out).trans H10r.out; have HB10 := Lib.hid b10; have k10 := cell_of_cells b10 4; have f10 := frozen_of_row w8 p10 4 _ _ b10; simp at k10; clear ho7 hx7 hk7 hl7 b10) | fail)
                    have hz7 := HK7.out.size; have hG7 : GI (some ⟨b, off, none⟩) m c w w8 w.heap.size p4 p7 (p7 + 1) q := HGr.out.kept HP.out HK7.out (fun i hi => by
                      rcases hi with hi | hi
                      · exact hi.elim
                      · have := (HO3.out.lt i hi).1; omega)
                    have hKS : Kept (fun z => z = p10) w8 (w8.setCell ⟨p10, 4, none⟩ (.slice A7 (z + 1) c7)) := (Kept.refl (fun z => z = p10) _).setCell (p := ⟨p10, 4, none⟩) (.inl rfl) _; refine ⟨⟨z + 1, q, A7, c7, sn ++ [⟨xo, xe, xu, ms⟩], by simp, by omega, by omega, by rw [List.length_append, HNL3.out]; rfl, ?_, hG7.kept HP.out hKS (fun i hi => by omega), ?_, ?_, ?_, ?_, HR9.out⟩, by simp only [intOf]; omega⟩
                    · have := hKS.size; omega
                    · rw [heap_setCell_same w8 p10 4 _ _ _ HB10.out]; rfl
                    · exact ((HO1.out.sameX (staysX_nx _) (by decide) HX7.out).keptK (staysX_nx _) (by decide) hKS (fun i hi => by omega))
                    · exact ((HO2.out.sameX (staysX_ms (by decide)) (by decide) HX7.out).keptK (staysX_ms (by decide)) (by decide) hKS (fun i hi => by omega))
                    · exact (HO7.out.keptK (staysX_mk (by decide)) (by decide) hKS (fun i hi => by omega))
            · have hzK : z = K := by omega
              subst hzK; obtain ⟨S, hS⟩ : ∃ S : St, S = ⟨se, ep, nx, hd, sn⟩ := ⟨_, rfl⟩; have HRC : Hid (R = if pl.bad = true ∨ pl.at_ ≠ m ∨ ck S ≠ 0 then none else some S) := by
                show R = _
                rw [HRr.out, Nat.sub_self, pSn, hS, ← HBL.out]; rfl
              obtain rfl := HV1.out; obtain rfl := HV2.out; have HSS : Hid (RdS wr (p10 + 1) ⟨A1, k, c1, A2, j, c2, A3, z, c3⟩ S) := by
                rw [hS]; exact ⟨HO1.out.rd (fun _ _ h => h) (by show k ≤ _; omega), HO2.out.rd ms_of_own (by show j ≤ _; omega), HO3.out.rd mk_of_own (by show z ≤ _; omega)⟩
              have HCK : Hid (∀ w' : World, Below wr.heap.size wr w' → Calls Try.prog 12 #[.agg #[.int .i64 se, .int .i64 ep, .slice A1 k c1, .slice A2 j c2, .slice A3 z c3]] w' fun e w'' => e = .returned (.int .i64 (ck S)) ∧ Below w'.heap.size w' w'') := fun w' h => by
                have := check_st S _ _ w' (HSS.out.below h); rw [hS] at this ⊢; exact this
              have hstv : stv S ⟨A1, k, c1, A2, j, c2, A3, z, c3⟩ = .agg #[.int .i64 se, .int .i64 ep, .slice A1 k c1, .slice A2 j c2, .slice A3 z c3] := by rw [hS]; rfl
              have HSTV := Lib.hid hstv; have HG2 := Lib.hid HGr.out.h2; have HGB := Lib.hid HGr.out.below; have HG4 := Lib.hid HGr.out.h4; obtain ⟨a, ha⟩ : ∃ a, a = pl.at_ := ⟨_, rfl⟩; obtain ⟨bb, hbb⟩ : ∃ bb, bb = pl.bad := ⟨_, rfl⟩; have HG7 : Hid (wr.heap[p7]? = some (.cells #[.int .i64 (a : Int)] 3 (0, 0))) := by show _ = _; rw [ha]; exact HGr.out.h7
              have HG8 : Hid (wr.heap[p7 + 1]? = some (.cells #[.bool bb] 4 (0, 0))) := by show _ = _; rw [hbb]; exact HGr.out.h8
              rw [← ha, ← hbb] at HRC; obtain ⟨CK, hCK⟩ : ∃ x, x = ck S := ⟨_, rfl⟩; rw [← hCK] at HRC HCK; have a4 : wr.cell? ⟨p4, 0, none⟩ = some (.slice (some ⟨b, off, none⟩) m c) := cell_of_cells HG4.out 0; have a7 : wr.cell? ⟨p7, 0, none⟩ = some (.int .i64 (a : Int)) := cell_of_cells HG7.out 0; have a8 : wr.cell? ⟨p7 + 1, 0, none⟩ = some (.bool bb) := cell_of_cells HG8.out 0; have b0 : wr.cell? ⟨p10, 0, none⟩ = some (.int .i64 se) := cell_of_cells H10r.out 0; have b1 : wr.cell? ⟨p10, 1, none⟩ = some (.int .i64 ep) := cell_of_cells H10r.out 1; have b2 : wr.cell? ⟨p10, 2, none⟩ = some (.slice A1 k c1) := cell_of_cells H10r.out 2; have b3 : wr.cell? ⟨p10, 3, none⟩ = some (.slice A2 j c2) := cell_of_cells H10r.out 3; have b4 : wr.cell? ⟨p10, 4, none⟩ = some (.slice A3 z c3) := cell_of_cells H10r.out 4; have hR0 : (bb = true ∨ a ≠ m ∨ CK ≠ 0) → Hid (R = none) := fun h => by
                show R = none
                rw [HRC.out, if_pos h]
              clear hS ha hbb hCK hstv HRr HR7 HG9 H9 HO9 HQ9 HBS HO1 HO2 HO3 HGr hat HV1 HV2; clear hn hb hbig hcap hsv d1 hsub hm0 hm1 hmc hcs hcw t0 hp7b hp47 hz5 hz6 hp10b hz8 hN256 hatH hM6 hatS hK6 hz hlt hj hk
              by_cases hbt : bb = true
              · subst hbt; have HR0 := hR0 (.inl rfl); clear hR0; have f0 := frozen_of_row wr w.heap.size 0 _ _ HG2.out; have f1 := frozen_of_row wr w.heap.size 1 _ _ HG2.out; have f2 := frozen_of_row wr w.heap.size 2 _ _ HG2.out; have f3 := frozen_of_row wr w.heap.size 3 _ _ HG2.out; have f4 := frozen_of_row wr w.heap.size 4 _ _ HG2.out; have r0 : wr.cell? ⟨w.heap.size, 0, none⟩ = some (.int .i64 0) := cell_of_cells HG2.out 0; have r1 : wr.cell? ⟨w.heap.size, 1, none⟩ = some (.int .i64 0) := cell_of_cells HG2.out 1; have r2 : wr.cell? ⟨w.heap.size, 2, none⟩ = some (.slice none 0 0) := cell_of_cells HG2.out 2; have r3 : wr.cell? ⟨w.heap.size, 3, none⟩ = some (.slice none 0 0) := cell_of_cells HG2.out 3; have r4 : wr.cell? ⟨w.heap.size, 4, none⟩ = some (.slice none 0 0) := cell_of_cells HG2.out 4
                go_wp2_with (first | ((with_reducible show (_ : Exit → Act → World → Prop) Exit.ret _ _); (try simp only [Exit.inBlock, Exit.then]); exact get_ret0 HR0.out HG2.out HGB.out rfl rfl rfl) | fail)
              · obtain rfl : bb = false := by simpa using hbt
                clear hbt
                by_cases ham : a = m
                · have t1 : ((a : Int) != (m : Int)) = false := by simp; omega
                  go_wp2_with fail
                  refine (HCK.out wr (Below.refl _ _)).mono ?_; rintro e9 w9 ⟨rfl, hb9⟩; have HGB9 := Lib.hid (HGB.out.trans (hb9.mono HGB.out.size)); have HG29 := Lib.hid ((hb9.block _ (Array.getElem?_eq_some_iff.1 HG2.out).1).trans HG2.out); have H109 := Lib.hid ((hb9.block _ (Array.getElem?_eq_some_iff.1 H10r.out).1).trans H10r.out); have HSS9 := Lib.hid (HSS.out.below hb9); clear b0 b1 b2 b3 b4 a4 a7 a8 hb9
                  by_cases hc0 : CK = 0
                  · have hrs : R = some S := by
                      rw [HRC.out, if_neg]; rintro (h | h | h)
                      · cases h
                      · exact h ham
                      · exact h hc0
                    have HRS := Lib.hid hrs; subst hc0; have f0 := frozen_of_row w9 w.heap.size 0 _ _ HG29.out; have f1 := frozen_of_row w9 w.heap.size 1 _ _ HG29.out; have f2 := frozen_of_row w9 w.heap.size 2 _ _ HG29.out; have f3 := frozen_of_row w9 w.heap.size 3 _ _ HG29.out; have f4 := frozen_of_row w9 w.heap.size 4 _ _ HG29.out; have r0 : w9.cell? ⟨w.heap.size, 0, none⟩ = some (.int .i64 0) := cell_of_cells HG29.out 0; have r1 : w9.cell? ⟨w.heap.size, 1, none⟩ = some (.int .i64 0) := cell_of_cells HG29.out 1; have r2 : w9.cell? ⟨w.heap.size, 2, none⟩ = some (.slice none 0 0) := cell_of_cells HG29.out 2; have r3 : w9.cell? ⟨w.heap.size, 3, none⟩ = some (.slice none 0 0) := cell_of_cells HG29.out 3; have r4 : w9.cell? ⟨w.heap.size, 4, none⟩ = some (.slice none 0 0) := cell_of_cells HG29.out 4; have b0 : w9.cell? ⟨p10, 0, none⟩ = some (.int .i64 se) := cell_of_cells H109.out 0; have b1 : w9.cell? ⟨p10, 1, none⟩ = some (.int .i64 ep) := cell_of_cells H109.out 1; have b2 : w9.cell? ⟨p10, 2, none⟩ = some (.slice A1 k c1) := cell_of_cells H109.out 2; have b3 : w9.cell? ⟨p10, 3, none⟩ = some (.slice A2 j c2) := cell_of_cells H109.out 3; have b4 : w9.cell? ⟨p10, 4, none⟩ = some (.slice A3 z c3) := cell_of_cells H109.out 4; have hpb : w.heap.size < p10 + 1 := by have := HP.out.b; have := HP.out.c; omega
                    clear hrs hR0
                    go_wp2_with (first | ((with_reducible show (_ : Exit → Act → World → Prop) Exit.ret _ _); (try simp only [Exit.inBlock, Exit.then]); exact get_ret1 HRS.out HSTV.out HSS9.out hpb HG29.out HGB9.out rfl rfl rfl) | fail)
                  · have HR0 := hR0 (.inr (.inr hc0)); have t2 : (CK != 0) = true := by simpa using hc0
                    clear hR0; have f0 := frozen_of_row w9 w.heap.size 0 _ _ HG29.out; have f1 := frozen_of_row w9 w.heap.size 1 _ _ HG29.out; have f2 := frozen_of_row w9 w.heap.size 2 _ _ HG29.out; have f3 := frozen_of_row w9 w.heap.size 3 _ _ HG29.out; have f4 := frozen_of_row w9 w.heap.size 4 _ _ HG29.out; have r0 : w9.cell? ⟨w.heap.size, 0, none⟩ = some (.int .i64 0) := cell_of_cells HG29.out 0; have r1 : w9.cell? ⟨w.heap.size, 1, none⟩ = some (.int .i64 0) := cell_of_cells HG29.out 1; have r2 : w9.cell? ⟨w.heap.size, 2, none⟩ = some (.slice none 0 0) := cell_of_cells HG29.out 2; have r3 : w9.cell? ⟨w.heap.size, 3, none⟩ = some (.slice none 0 0) := cell_of_cells HG29.out 3; have r4 : w9.cell? ⟨w.heap.size, 4, none⟩ = some (.slice none 0 0) := cell_of_cells HG29.out 4
                    go_wp2_with (first | ((with_reducible show (_ : Exit → Act → World → Prop) Exit.ret _ _); (try simp only [Exit.inBlock, Exit.then]); exact get_ret0 HR0.out HG29.out HGB9.out rfl rfl rfl) | fail)
                · have HR0 := hR0 (.inr (.inl ham)); have t1 : ((a : Int) != (m : Int)) = true := by simp; omega
                  clear hR0; have f0 := frozen_of_row wr w.heap.size 0 _ _ HG2.out; have f1 := frozen_of_row wr w.heap.size 1 _ _ HG2.out; have f2 := frozen_of_row wr w.heap.size 2 _ _ HG2.out; have f3 := frozen_of_row wr w.heap.size 3 _ _ HG2.out; have f4 := frozen_of_row wr w.heap.size 4 _ _ HG2.out; have r0 : wr.cell? ⟨w.heap.size, 0, none⟩ = some (.int .i64 0) := cell_of_cells HG2.out 0; have r1 : wr.cell? ⟨w.heap.size, 1, none⟩ = some (.int .i64 0) := cell_of_cells HG2.out 1; have r2 : wr.cell? ⟨w.heap.size, 2, none⟩ = some (.slice none 0 0) := cell_of_cells HG2.out 2; have r3 : wr.cell? ⟨w.heap.size, 3, none⟩ = some (.slice none 0 0) := cell_of_cells HG2.out 3; have r4 : wr.cell? ⟨w.heap.size, 4, none⟩ = some (.slice none 0 0) := cell_of_cells HG2.out 4
                  go_wp2_with (first | ((with_reducible show (_ : Exit → Act → World → Prop) Exit.ret _ _); (try simp only [Exit.inBlock, Exit.then]); exact get_ret0 HR0.out HG2.out HGB.out rfl rfl rfl) | fail)
end Go.Proofs.Ytcnlgcmooegfkaa
