/-
  THE WALK OF play: a call of both lines.
-/
import Derived.Test.YtgiboekjjnmnnaaWayTake
import Derived.Test.YtgiboekjjnmnnaaLineState
import Derived.Test.YtgiboekjjnmnnaaLineMore
namespace Go.Proofs.Ytgiboekjjnmnnaa
open Go.RowKit

/-- a line and what the document has of it, side by side -/
structure Both (w0 : World) (g : Nat) (dl nw : Int) (n : Nat) (P D : Value) (p : List UInt8) (due : List Int) (A' : Option Addr) (n' c' : Nat) (ws : List (UInt8 × Int)) (w : World) : Prop where
  ln : Ln w w0.heap.size g dl nw n n P D p due
  rd : RdC w A' n' c' 2 (wcs ws)
  wl : ws.length = n'
  ap : 0 < n' → ∀ b off, A' = some ⟨b, off, none⟩ → ¬ LnS g P D b
  bel : Below w0.heap.size w0 w

section
variable {w0 w w' : World} {g : Nat} {dl nw : Int} {n : Nat} {P D : Value} {p : List UInt8} {due : List Int} {A' : Option Addr} {n' c' : Nat} {ws : List (UInt8 × Int)}
theorem Both.low (h : Both w0 g dl nw n P D p due A' n' c' ws w) : ∀ i, LnS g P D i → i < w.heap.size := by
  rintro i (rfl | e | e)
  · exact h.ln.lt
  · exact (h.ln.hp.lt i e).2
  · exact (h.ln.hd.lt i e).2
theorem Both.grow (h : Both w0 g dl nw n P D p due A' n' c' ws w) (hb : Below w.heap.size w w') : Both w0 g dl nw n P D p due A' n' c' ws w' :=
  ⟨h.ln.below hb, h.rd.below hb, h.wl, h.ap, h.bel.trans (hb.mono h.bel.size)⟩
/-- the document's line has gone on -/
theorem Both.doc (h : Both w0 g dl nw n P D p due A' n' c' ws w) (hb : Below w.heap.size w w') {A2 : Option Addr} {n2 c2 : Nat} {ws2 : List (UInt8 × Int)} (hr : RdC w' A2 n2 c2 2 (wcs ws2)) (hl : ws2.length = n2) (ha : 0 < n2 → ∀ b off, A2 = some ⟨b, off, none⟩ → w.heap.size ≤ b) :
    Both w0 g dl nw n P D p due A2 n2 c2 ws2 w' := by
  have hlow := h.low
  exact ⟨h.ln.below hb, hr, hl, fun h0 b off e hs => by have := ha h0 b off e; have := hlow b hs; omega, h.bel.trans (hb.mono h.bel.size)⟩
theorem Both.row (h : Both w0 g dl nw n P D p due A' n' c' ws w) (hb : Below w.heap.size w w') {A2 : Option Addr} {n2 c2 : Nat} {ws2 : List (UInt8 × Int)} (hr : w'.ownsRow w.heap.size 61 2 (.slice A2 n2 c2) n2 (wcs ws2)) (hl : ws2.length = n2) (hn : n2 ≤ 70000) :
    Both w0 g dl nw n P D p due A2 n2 c2 ws2 w' :=
  h.doc hb (RdC.of_row hr (by omega)) hl fun _ b off e => by subst e; exact (World.ownsRow.lt hr b rfl).1
/-- the line has gone on -/
theorem Both.line (h : Both w0 g dl nw n P D p due A' n' c' ws w) (hk : Kept (LnS g P D) w w') {nw2 : Int} {n2 : Nat} {P2 D2 : Value} {p2 : List UInt8} {due2 : List Int} (H : Ln w' w0.heap.size g dl nw2 n2 n2 P2 D2 p2 due2) (aP : Anew w P P2) (aD : Anew w D D2) :
    Both w0 g dl nw2 n2 P2 D2 p2 due2 A' n' c' ws w' := by
  refine ⟨H, ?_, h.wl, ?_, h.bel.trans (h.ln.under hk h.bel.size)⟩
  · rcases Nat.eq_zero_or_pos n' with h0 | h0
    · subst h0
      have : wcs ws = [] := List.eq_nil_of_length_eq_zero (by simpa using h.rd.len)
      rw [this]
      have hc := h.rd.cap
      exact ⟨by simp, hc, by omega, fun h => absurd h (by omega)⟩
    · exact h.rd.keep hk.size fun b off e hb => hk.block b hb (h.ap h0 b off e)
  · intro h0 b off e hs
    obtain ⟨b', off', e', hb', _⟩ := h.rd.at_ h0
    rw [e] at e'
    injection e' with e'
    injection e' with e1 _
    subst e1
    have hna := h.ap h0 b off e
    rcases hs with e2 | e2 | e2
    · exact hna (.inl e2)
    · rcases aP b e2 with e3 | e3
      · exact hna (.inr (.inl e3))
      · omega
    · rcases aD b e2 with e3 | e3
      · exact hna (.inr (.inr e3))
      · omega
end

/-- block r is neither the line's nor the document's row -/
structure Off (r : Nat) (g : Nat) (P D : Value) (A' : Option Addr) (n' : Nat) : Prop where
  l : ∀ i, LnS g P D i → i ≠ r
  a : 0 < n' → ∀ b off, A' = some ⟨b, off, none⟩ → b ≠ r
section
variable {w0 w w' : World} {g : Nat} {dl nw : Int} {n : Nat} {P D : Value} {p : List UInt8} {due : List Int} {A' : Option Addr} {n' c' : Nat} {ws : List (UInt8 × Int)} {r : Nat}
theorem Both.off (h : Both w0 g dl nw n P D p due A' n' c' ws w) (hr : w.heap.size ≤ r) : Off r g P D A' n' := by
  refine ⟨fun i hi => by have := h.low i hi; omega, fun h0 b off e => ?_⟩
  obtain ⟨b', off', e', hb', _⟩ := h.rd.at_ h0
  rw [e] at e'
  injection e' with e'
  injection e' with e1 _
  omega
theorem Off.row (h : Off r g P D A' n') (hr : r < w.heap.size) {A2 : Option Addr} {n2 c2 : Nat} {ys : List Value} (ho : w'.ownsRow w.heap.size 61 2 (.slice A2 n2 c2) n2 ys) : Off r g P D A2 n2 :=
  ⟨h.l, fun _ b off e => by subst e; have := (World.ownsRow.lt ho b rfl).1; omega⟩
theorem Off.doc (h : Off r g P D A' n') {A2 : Option Addr} {n2 : Nat} (ha : 0 < n2 → ∀ b off, A2 = some ⟨b, off, none⟩ → w.heap.size ≤ b) (hr : r < w.heap.size) : Off r g P D A2 n2 :=
  ⟨h.l, fun h0 b off e => by have := ha h0 b off e; omega⟩
theorem Off.line (h : Off r g P D A' n') (hr : r < w.heap.size) {P2 D2 : Value} (aP : Anew w P P2) (aD : Anew w D D2) : Off r g P2 D2 A' n' := by
  refine ⟨?_, h.a⟩
  rintro i (e | e | e)
  · exact h.l i (.inl e)
  · rcases aP i e with e3 | e3
    · exact h.l i (.inr (.inl e3))
    · omega
  · rcases aD i e with e3 | e3
    · exact h.l i (.inr (.inr e3))
    · omega
theorem Both.keep1 (h : Both w0 g dl nw n P D p due A' n' c' ws w) (ho : Off r g P D A' n') (hr : w0.heap.size ≤ r) (hk : Kept (fun i => i = r) w w') : Both w0 g dl nw n P D p due A' n' c' ws w' := by
  refine ⟨h.ln.keep fun k hk1 hs => hk.block k hk1 (ho.l k hs), ?_, h.wl, h.ap, h.bel.trans (hk.below h.bel.size (by intro i hi e; omega))⟩
  rcases Nat.eq_zero_or_pos n' with h0 | h0
  · subst h0
    have : wcs ws = [] := List.eq_nil_of_length_eq_zero (by simpa using h.rd.len)
    rw [this]
    have hc := h.rd.cap
    exact ⟨by simp, hc, by omega, fun h => absurd h (by omega)⟩
  · exact h.rd.keep hk.size fun b off e hb => hk.block b hb (ho.a h0 b off e)
theorem kept2 (w : World) (r : Nat) (x y : Value) : Kept (fun i => i = r) w ((w.setCell ⟨r, 0, none⟩ x).setCell ⟨r, 1, none⟩ y) :=
  ((Kept.refl (fun i => i = r) w).setCell (p := ⟨r, 0, none⟩) (.inl rfl) _).setCell (p := ⟨r, 1, none⟩) (.inl rfl) _
end

/-- play's own boxes -/
abbrev abox (ac : Array Value) : Obj := .cells ac 42
abbrev pstart (w : World) (dl : Int) (sl : Value) (ac : Array Value) : World := ((w.alloc (lbox dl sl)).alloc (abox ac)).alloc lres
structure BX (w : World) (dl : Int) (sl : Value) (ac : Array Value) (w' : World) : Prop where
  b0 : w'.heap[w.heap.size]? = some (lbox dl sl)
  b1 : w'.heap[w.heap.size + 1]? = some (abox ac)
  b2 : ∃ x y, w'.heap[w.heap.size + 2]? = some (.cells #[x, y] 38 (0, 0))
section
variable {w : World} {dl : Int} {sl : Value} {ac : Array Value} {w' w2 : World}
theorem BX.init (w : World) (dl : Int) (sl : Value) (ac : Array Value) : BX w dl sl ac (pstart w dl sl ac) := by
  refine ⟨?_, ?_, .int .i64 0, .slice none 0 0, ?_⟩
  · rw [Below.heap_alloc _ _ _ (by simp; omega), Below.heap_alloc _ _ _ (by simp)]
    exact heap_alloc_new _ _
  · rw [Below.heap_alloc _ _ _ (by simp), show w.heap.size + 1 = (w.alloc (lbox dl sl)).heap.size by simp]
    exact heap_alloc_new _ _
  · rw [show w.heap.size + 2 = ((w.alloc (lbox dl sl)).alloc (abox ac)).heap.size by simp]
    exact heap_alloc_new _ _
theorem BX.lt (h : BX w dl sl ac w') : w.heap.size + 3 ≤ w'.heap.size := by obtain ⟨x, y, hr⟩ := h.b2; exact (Array.getElem?_eq_some_iff.1 hr).1
theorem BX.keep (h : BX w dl sl ac w') (hk : ∀ i, w.heap.size ≤ i → i < w.heap.size + 3 → w2.heap[i]? = w'.heap[i]?) : BX w dl sl ac w2 := by
  obtain ⟨x, y, hr⟩ := h.b2
  exact ⟨(hk _ (by omega) (by omega)).trans h.b0, (hk _ (by omega) (by omega)).trans h.b1, x, y, (hk _ (by omega) (by omega)).trans hr⟩
theorem BX.below (h : BX w dl sl ac w') (hb : Below w'.heap.size w' w2) : BX w dl sl ac w2 := h.keep fun i _ h2 => hb.block i (by have := h.lt; omega)
theorem BX.kept {S : Nat → Prop} (h : BX w dl sl ac w') (hk : Kept S w' w2) (hS : ∀ i, S i → i < w.heap.size) : BX w dl sl ac w2 :=
  h.keep fun i h1 h2 => hk.block i (by have := h.lt; omega) (fun hs => by have := hS i hs; omega)
theorem BX.stored (h : BX w dl sl ac w') (x y : Value) : BX w dl sl ac ((w'.setCell ⟨w.heap.size + 2, 0, none⟩ x).setCell ⟨w.heap.size + 2, 1, none⟩ y) ∧
    ((w'.setCell ⟨w.heap.size + 2, 0, none⟩ x).setCell ⟨w.heap.size + 2, 1, none⟩ y).heap[w.heap.size + 2]? = some (.cells #[x, y] 38 (0, 0)) := by
  obtain ⟨x0, y0, hr⟩ := h.b2
  have hr2 : ((w'.setCell ⟨w.heap.size + 2, 0, none⟩ x).setCell ⟨w.heap.size + 2, 1, none⟩ y).heap[w.heap.size + 2]? = some (.cells #[x, y] 38 (0, 0)) := heap_setCell_same _ _ 1 _ _ _ (heap_setCell_same _ _ 0 _ _ _ hr)
  refine ⟨⟨?_, ?_, x, y, hr2⟩, hr2⟩
  · rw [heap_setCell_other _ _ _ _ (by simp), heap_setCell_other _ _ _ _ (by simp)]
    exact h.b0
  · rw [heap_setCell_other _ _ _ _ (by simp), heap_setCell_other _ _ _ _ (by simp)]
    exact h.b1
theorem BX.c (h : BX w dl sl ac w') (j : Nat) : w'.cell? ⟨w.heap.size, j, none⟩ = (#[.int .i64 dl, sl] : Array Value)[j]? := cell_of_cells h.b0 j
theorem BX.a (h : BX w dl sl ac w') (j : Nat) : w'.cell? ⟨w.heap.size + 1, j, none⟩ = ac[j]? := cell_of_cells h.b1 j
theorem BX.r (h : BX w dl sl ac w') : ∃ x y, w'.cell? ⟨w.heap.size + 2, 0, none⟩ = some x ∧ w'.cell? ⟨w.heap.size + 2, 1, none⟩ = some y ∧ w'.frozen? ⟨w.heap.size + 2, 0, none⟩ = false ∧ w'.frozen? ⟨w.heap.size + 2, 1, none⟩ = false := by
  obtain ⟨x, y, hr⟩ := h.b2
  exact ⟨x, y, by rw [cell_of_cells hr]; rfl, by rw [cell_of_cells hr]; rfl, frozen_of_row w' _ 0 _ _ hr, frozen_of_row w' _ 1 _ _ hr⟩
end

theorem below_start (w : World) (dl : Int) (sl : Value) (ac : Array Value) : Below w.heap.size w (pstart w dl sl ac) := (((Below.refl w.heap.size w).alloc (Nat.le_refl _) _).alloc (by simp) _).alloc (by simp; omega) _

/-- what play promises -/
def Plays (w0 : World) (g : Nat) (dl nw : Int) (P D : Value) (A : Option Addr) (n : Nat) (w : World) (e : Ending) (w' : World) : Prop :=
  ∃ nw' n' P' D' p' due' A' c', e = .returned (.tuple #[.agg #[.int .i64 dl, .slice A' n' c'], .bool true]) ∧ Both w0 g dl nw' n' P' D' p' due' A' n' c' (ways nw' p' due') w' ∧ n' ≤ 65536 ∧ nw ≤ nw' ∧ nw' ≤ nw + 1 ∧ (∀ d ∈ due', d ≤ nw' + 64) ∧ Kept (LnS g P D) w w' ∧ (∀ r, r < w.heap.size → Off r g P D A n → Off r g P' D' A' n')

set_option maxHeartbeats 2000000 in
theorem play_none (w0 w : World) {g : Nat} {dl nw : Int} {n : Nat} {P D : Value} {p : List UInt8} {due : List Int} {A : Option Addr} {c : Nat} (h : Both w0 g dl nw n P D p due A n c (ways nw p due) w) (hn : n ≤ 65536) (hd : ∀ d ∈ due, d ≤ nw + 64)
    (kind at_ num : Int) (Aa : Option Addr) (na ca : Nat) (hk : kind < 0 ∨ 5 < kind) :
    Calls Try.prog 14 #[.pointer (some ⟨g, 0, none⟩), .agg #[.int .i64 dl, .slice A n c], .agg #[.int .i64 kind, .int .i64 at_, .int .i64 num, .slice Aa na ca]] w (Plays w0 g dl nw P D A n w) := by
  have t0 : (kind == 0) = false := by simp; omega
  have t1 : (kind == 1) = false := by simp; omega
  have t2 : (kind == 2) = false := by simp; omega
  have t3 : (kind == 3) = false := by simp; omega
  have t4 : (kind == 4) = false := by simp; omega
  have t5 : (kind == 5) = false := by simp; omega
  have HB := Lib.hid h
  have HD := Lib.hid hd
  clear h hd hk
  go_enter Try.func14, Try.ntmps14
  go_wp2
  go_returns
  exact ⟨nw, n, P, D, p, due, A, c, rfl, HB.out.grow ((((Below.refl w.heap.size w).alloc (Nat.le_refl _) _).alloc (by simp) _).alloc (by simp; omega) _), hn, Int.le_refl _, by omega, HD.out, Kept.all ((((Below.refl w.heap.size w).alloc (Nat.le_refl _) _).alloc (by simp) _).alloc (by simp; omega) _), fun r _ h => h⟩

set_option maxHeartbeats 2000000 in
theorem play_tick (w0 w : World) {g : Nat} {dl nw : Int} {n : Nat} {P D : Value} {p : List UInt8} {due : List Int} {A : Option Addr} {c : Nat} (h : Both w0 g dl nw n P D p due A n c (ways nw p due) w) (hn : n ≤ 65536) (hd : ∀ d ∈ due, d ≤ nw + 64) (h0 : 0 ≤ nw) (h1 : nw ≤ 1000)
    (at_ num : Int) (Aa : Option Addr) (na ca : Nat) :
    Calls Try.prog 14 #[.pointer (some ⟨g, 0, none⟩), .agg #[.int .i64 dl, .slice A n c], .agg #[.int .i64 1, .int .i64 at_, .int .i64 num, .slice Aa na ca]] w (Plays w0 g dl nw P D A n w) := by
  have hlow := h.low
  have hw0 := h.bel.size
  have OF0 := Lib.hid (h.off (r := w.heap.size + 2) (by omega))
  have hz : ∀ x ∈ ways nw p due, 0 ≤ x.2 ∧ x.2 ≤ 1000 := by
    intro x hx
    obtain ⟨i, hi, rfl⟩ := List.mem_iff_getElem.1 hx
    simp only [ways, List.getElem_zipWith]
    have := hd (due[i]'(by simp [ways] at hi; omega)) (List.getElem_mem _)
    omega
  have HB := Lib.hid (h.grow (below_start w dl (.slice A n c) #[.int .i64 1, .int .i64 at_, .int .i64 num, .slice Aa na ca]))
  have HX := Lib.hid (BX.init w dl (.slice A n c) #[.int .i64 1, .int .i64 at_, .int .i64 num, .slice Aa na ca])
  have HD := Lib.hid hd
  have HZ := Lib.hid hz
  clear h hd hz
  go_enter Try.func14, Try.ntmps14
  go_wp2_with fail
  refine (rtick_any _ dl A n c (ways nw p due) HB.out.rd HB.out.wl hn HZ.out).mono ?_
  rintro e w1 ⟨A2, c2, rfl, ho1, hb1⟩
  have HB1 := Lib.hid (HB.out.row hb1 (ws2 := ways (nw + 1) p due) (by rw [ways_tick]; exact ho1) (by rw [ways_tick, List.length_map]; exact HB.out.wl) (by omega))
  have HX1 := Lib.hid (HX.out.below hb1)
  have OF := Lib.hid (OF0.out.row (by simp) ho1)
  have OA := Lib.hid (fun (r : Nat) (hr : r < w.heap.size) (h : Off r g P D A n) => h.row (by simp; omega) ho1)
  have HK1 := Lib.hid (show Kept (LnS g P D) w w1 from Kept.all ((below_start w dl (.slice A n c) #[.int .i64 1, .int .i64 at_, .int .i64 num, .slice Aa na ca]).trans (hb1.mono (below_start w dl (.slice A n c) #[.int .i64 1, .int .i64 at_, .int .i64 num, .slice Aa na ca]).size)))
  clear ho1 hb1
  go_wp2_with fail
  refine (tick_any _ HB1.out.ln h0 (by omega)).mono ?_
  rintro e w2 ⟨rfl, H2, k2⟩
  have HB2 := Lib.hid (HB1.out.line (k2.mono fun _ _ e => .inl e) H2 (Anew.refl _ _) (Anew.refl _ _))
  have HX2 := Lib.hid (HX1.out.kept k2 (fun i e => hlow i (.inl e)))
  obtain ⟨x0, y0, r0, r1, f0, f1⟩ := HX2.out.r
  have hst := HX2.out.stored (.int .i64 dl) (.slice A2 n c2)
  have HST := Lib.hid hst.2
  have HK2 := Lib.hid (HK1.out.trans k2 (fun i _ e => .inl e))
  clear H2 k2 hst
  go_wp2
  refine bodyPost_ret (results_cell2 rfl _ _ (w.heap.size + 2) _ _ _ _ rfl HST.out Try.underlying38 rfl (by kernel_rfl)) rfl ?_
  exact ⟨nw + 1, n, P, D, p, due, A2, c2, rfl, HB2.out.keep1 OF.out (by omega) (kept2 _ _ _ _), hn, by omega, Int.le_refl _, fun d hd => by have := HD.out d hd; omega, HK2.out.trans (kept2 _ _ _ _) (fun i hi e => by omega), OA.out⟩

/-- what holds on the way through play's last region: ca: has the line's call come up? cs: the store? -/
structure PI (w0 w : World) (g : Nat) (dl nw : Int) (n : Nat) (P D : Value) (p : List UInt8) (due : List Int) (n2 : Nat) (p2 : List UInt8) (due2 : List Int) (A2 : Option Addr) (m2 c2 : Nat) (ws2 : List (UInt8 × Int)) (sl : Value) (ac : Array Value) (v : Nat) (RR : Nat → Prop) (ca cs : Bool) (w' : World) : Prop where
  bx : BX w dl sl ac w'
  var : w'.heap[v]? = some (lbox dl (.slice A2 m2 c2))
  hv : w.heap.size + 3 ≤ v
  st : cond ca (∃ P2 D2, Both w0 g dl nw n2 P2 D2 p2 due2 A2 m2 c2 ws2 w' ∧ ∀ r, RR r → Off r g P2 D2 A2 m2) (Both w0 g dl nw n P D p due A2 m2 c2 ws2 w' ∧ ∀ r, RR r → Off r g P D A2 m2)
  fin : cond cs (w'.heap[w.heap.size + 2]? = some (lbox dl (.slice A2 m2 c2))) True
  kp : Kept (LnS g P D) w w'
  rr : ∀ r, RR r → r < w.heap.size + 3
  r2 : RR (w.heap.size + 2)
section
variable {w0 w w' w2 : World} {g : Nat} {dl nw : Int} {n : Nat} {P D : Value} {p : List UInt8} {due : List Int} {n2 : Nat} {p2 : List UInt8} {due2 : List Int} {A2 : Option Addr} {m2 c2 : Nat} {ws2 : List (UInt8 × Int)} {sl : Value} {ac : Array Value} {v : Nat} {RR : Nat → Prop} {ca cs : Bool}
theorem PI.lt (h : PI w0 w g dl nw n P D p due n2 p2 due2 A2 m2 c2 ws2 sl ac v RR ca cs w') : v < w'.heap.size := (Array.getElem?_eq_some_iff.1 h.var).1
theorem PI.vc (h : PI w0 w g dl nw n P D p due n2 p2 due2 A2 m2 c2 ws2 sl ac v RR ca cs w') (j : Nat) : w'.cell? ⟨v, j, none⟩ = (#[.int .i64 dl, .slice A2 m2 c2] : Array Value)[j]? := cell_of_cells h.var j
theorem PI.call (h : PI w0 w g dl nw n P D p due n2 p2 due2 A2 m2 c2 ws2 sl ac v RR false cs w') (hlow : ∀ i, LnS g P D i → i < w.heap.size) (hk : Kept (LnS g P D) w' w2) {P2 D2 : Value} (H : Ln w2 w0.heap.size g dl nw n2 n2 P2 D2 p2 due2) (aP : Anew w' P P2) (aD : Anew w' D D2) :
    PI w0 w g dl nw n P D p due n2 p2 due2 A2 m2 c2 ws2 sl ac v RR true cs w2 := by
  obtain ⟨h1, h2⟩ := h.st
  have hlt := h.bx.lt
  refine ⟨h.bx.kept hk hlow, (hk.block v h.lt (fun hs => by have := hlow v hs; have := h.hv; omega)).trans h.var, h.hv, ⟨P2, D2, h1.line hk H aP aD, fun r hr => (h2 r hr).line (by have := h.rr r hr; omega) aP aD⟩, cond_keep' h.fin fun e => (hk.block _ (by omega) (fun hs => by have := hlow _ hs; omega)).trans e, h.kp.trans hk (fun _ _ e => e), h.rr, h.r2⟩
theorem PI.stored (h : PI w0 w g dl nw n P D p due n2 p2 due2 A2 m2 c2 ws2 sl ac v RR ca cs w') (hw0 : w0.heap.size ≤ w.heap.size) :
    PI w0 w g dl nw n P D p due n2 p2 due2 A2 m2 c2 ws2 sl ac v RR ca true ((w'.setCell ⟨w.heap.size + 2, 0, none⟩ (.int .i64 dl)).setCell ⟨w.heap.size + 2, 1, none⟩ (.slice A2 m2 c2)) := by
  have hs := h.bx.stored (.int .i64 dl) (.slice A2 m2 c2)
  have hk := kept2 w' (w.heap.size + 2) (.int .i64 dl) (.slice A2 m2 c2)
  refine ⟨hs.1, (hk.block v h.lt (by have := h.hv; omega)).trans h.var, h.hv, ?_, hs.2, h.kp.trans hk (fun i hi e => by omega), h.rr, h.r2⟩
  have := h.st
  cases ca
  · exact ⟨this.1.keep1 (this.2 _ h.r2) (by omega) hk, this.2⟩
  · obtain ⟨P2, D2, h1, h2⟩ := this
    exact ⟨P2, D2, h1.keep1 (h2 _ h.r2) (by omega) hk, h2⟩
theorem PI.drew (h : PI w0 w g dl nw n P D p due n2 p2 due2 A2 m2 c2 ws2 sl ac v RR ca cs w') : PI w0 w g dl nw n P D p due n2 p2 due2 A2 m2 c2 ws2 sl ac v RR ca cs w'.drew := by
  have hb : Below w'.heap.size w' w'.drew := (Below.refl _ _).drew
  refine ⟨h.bx.below hb, h.var, h.hv, ?_, h.fin, h.kp.drew, h.rr, h.r2⟩
  have := h.st
  cases ca
  · exact ⟨this.1.grow hb, this.2⟩
  · obtain ⟨P2, D2, h1, h2⟩ := this
    exact ⟨P2, D2, h1.grow hb, h2⟩
end

set_option maxHeartbeats 2000000 in
theorem play_drop (w0 w : World) {g : Nat} {dl nw : Int} {n : Nat} {P D : Value} {p : List UInt8} {due : List Int} {A : Option Addr} {c : Nat} (h : Both w0 g dl nw n P D p due A n c (ways nw p due) w)
    (at_ num : Int) (Aa : Option Addr) (na ca : Nat) (er : Int) (m2 : Nat) (ws2 : List (UInt8 × Int)) (n2 : Nat) (p2 : List UInt8) (due2 : List Int)
    (hdoc : ∀ ps, Both w0 g dl nw n P D p due A n c (ways nw p due) ps → Calls Try.prog 23 #[.agg #[.int .i64 dl, .slice A n c], .int .i64 at_, .int .i64 num] ps fun e w' => ∃ A2 c2, e = .returned (.tuple #[.agg #[.int .i64 dl, .slice A2 m2 c2], .int .i64 er]) ∧ Both w0 g dl nw n P D p due A2 m2 c2 ws2 w' ∧ (∀ r, Off r g P D A n → r < ps.heap.size → Off r g P D A2 m2) ∧ Below ps.heap.size ps w')
    (hprog : ∀ w1, Ln w1 w0.heap.size g dl nw n n P D p due → w0.heap.size ≤ w1.heap.size → Calls Try.prog 18 #[.pointer (some ⟨g, 0, none⟩), .int .i64 at_, .int .i64 num] w1 fun e w' => ∃ P2 D2, e = .returned (.int .i64 er) ∧ Ln w' w0.heap.size g dl nw n2 n2 P2 D2 p2 due2 ∧ Kept (LnS g P D) w1 w' ∧ Anew w1 P P2 ∧ Anew w1 D D2)
    (hm : m2 = n2) (hws : ws2 = ways nw p2 due2) (hn : n2 ≤ 65536) (hd : ∀ d ∈ due2, d ≤ nw + 64) :
    Calls Try.prog 14 #[.pointer (some ⟨g, 0, none⟩), .agg #[.int .i64 dl, .slice A n c], .agg #[.int .i64 3, .int .i64 at_, .int .i64 num, .slice Aa na ca]] w (Plays w0 g dl nw P D A n w) := by
  have hlow := h.low
  have hw0 := h.bel.size
  have OF0 := Lib.hid (h.off (r := w.heap.size + 2) (by omega))
  have HB := Lib.hid (h.grow (below_start w dl (.slice A n c) #[.int .i64 3, .int .i64 at_, .int .i64 num, .slice Aa na ca]))
  have HX := Lib.hid (BX.init w dl (.slice A n c) #[.int .i64 3, .int .i64 at_, .int .i64 num, .slice Aa na ca])
  have HDOC := Lib.hid hdoc
  have HPROG := Lib.hid hprog
  have HM := Lib.hid hm
  have HWS := Lib.hid hws
  have HD := Lib.hid hd
  clear h hdoc hprog hm hws hd
  go_enter Try.func14, Try.ntmps14
  go_wp2_with fail
  refine (HDOC.out _ HB.out).mono ?_
  rintro e w1 ⟨A2, c2, rfl, hB1, hO1, hb1⟩
  have HX1 := Lib.hid ((HX.out.below hb1).below ((Below.refl _ _).alloc (Nat.le_refl _) (lbox dl (.slice A2 m2 c2))))
  have HB1 := Lib.hid (hB1.grow ((Below.refl _ _).alloc (Nat.le_refl _) (lbox dl (.slice A2 m2 c2))))
  have hv1 : w.heap.size + 3 ≤ w1.heap.size := by have := hb1.size; simpa using this
  have HI := Lib.hid (show PI w0 w g dl nw n P D p due n2 p2 due2 A2 m2 c2 ws2 (.slice A n c) #[.int .i64 3, .int .i64 at_, .int .i64 num, .slice Aa na ca] w1.heap.size (fun r => r = w.heap.size + 2 ∨ (r < w.heap.size ∧ Off r g P D A n)) false false (w1.alloc (lbox dl (.slice A2 m2 c2))) from
    ⟨HX1.out, heap_alloc_new _ _, hv1, ⟨HB1.out, fun r hr => hO1 r (by rcases hr with rfl | hr; exact OF0.out; exact hr.2) (by rcases hr with rfl | hr <;> simp <;> omega)⟩, trivial, Kept.all (((below_start w dl (.slice A n c) #[.int .i64 3, .int .i64 at_, .int .i64 num, .slice Aa na ca]).trans (hb1.mono (below_start w dl (.slice A n c) #[.int .i64 3, .int .i64 at_, .int .i64 num, .slice Aa na ca]).size)).alloc (by omega) (lbox dl (.slice A2 m2 c2))), fun r hr => by rcases hr with rfl | hr <;> omega, .inl rfl⟩)
  clear hB1 hO1 hb1
  go_wp2_with fail
  refine Free.wp_seq2 (I := fun L w' => PI w0 w g dl nw n P D p due n2 p2 due2 A2 m2 c2 ws2 (.slice A n c) #[.int .i64 3, .int .i64 at_, .int .i64 num, .slice Aa na ca] w1.heap.size (fun r => r = w.heap.size + 2 ∨ (r < w.heap.size ∧ Off r g P D A n)) (L 6) (L 9) w') (Gr := fun _ _ => True) (by kernel_rfl) (by kernel_rfl) HI.out.drew ?_
  refine Free.Seq2.val ?_ (fun _ => trivial) (fun _ _ h => h) (fun a w3 L hI hp => ?_) ?_
  rotate_left
  · have e15 := hp.slotV 15 (by kernel_rfl) rfl; simp at e15
    have k0 := hI.vc 0
    have k1 := hI.vc 1
    refine ⟨Free.want_none rfl, ?_⟩
    clear hp
    go_simp
    rfl
  refine Free.Seq2.val ?_ (fun _ => trivial) (fun _ _ h => h) (fun a w3 L hI hp => ?_) ?_
  rotate_left
  · have e0 := hp.slotV 0 (by kernel_rfl) rfl; simp at e0
    refine ⟨Free.want_none rfl, ?_⟩
    clear hp
    go_simp
    rfl
  refine Free.Seq2.val ?_ (fun _ => trivial) (fun _ _ h => h) (fun a w3 L hI hp => ?_) ?_
  rotate_left
  · have e5 := hp.slotV 5 (by kernel_rfl) rfl; simp at e5
    refine ⟨Free.want_none rfl, ?_⟩
    clear hp
    go_simp
    rfl
  refine Free.Seq2.val ?_ (fun _ => trivial) (fun _ _ h => h) (fun a w3 L hI hp => ?_) ?_
  rotate_left
  · have e91 := hp.backV 2 0 rfl rfl rfl rfl rfl
    have k2 := hI.bx.a 1
    refine ⟨Free.want_none rfl, ?_⟩
    clear hp
    go_simp
    rfl
  refine Free.Seq2.val ?_ (fun _ => trivial) (fun _ _ h => h) (fun a w3 L hI hp => ?_) ?_
  rotate_left
  · have e5 := hp.slotV 5 (by kernel_rfl) rfl; simp at e5
    refine ⟨Free.want_none rfl, ?_⟩
    clear hp
    go_simp
    rfl
  refine Free.Seq2.val ?_ (fun _ => trivial) (fun _ _ h => h) (fun a w3 L hI hp => ?_) ?_
  rotate_left
  · have e93 := hp.backV 4 0 rfl rfl rfl rfl rfl
    have k3 := hI.bx.a 2
    refine ⟨Free.want_none rfl, ?_⟩
    clear hp
    go_simp
    rfl
  refine Free.Seq2.call (T := Free.eqF (.int .i64 er)) (fun _ _ _ h _ => h) (fun a w3 L hI hp => ?_) ?_
  · have e90 := hp.backV 1 4 rfl rfl rfl rfl rfl; have e92 := hp.backV 3 2 rfl rfl rfl rfl rfl; have e94 := hp.backV 5 0 rfl rfl rfl rfl rfl
    have hf : L 6 = false := hp.fresh
    have hS := hI
    rw [hf] at hS
    obtain ⟨h1, h2⟩ := (show Both w0 g dl nw n P D p due A2 m2 c2 ws2 w3 ∧ ∀ r, (fun r => r = w.heap.size + 2 ∨ (r < w.heap.size ∧ Off r g P D A n)) r → Off r g P D A2 m2 from hS.st)
    refine ⟨Free.want_none rfl, 18, #[.pointer (some ⟨g, 0, none⟩), .int .i64 at_, .int .i64 num], ?_, ?_⟩
    · clear hp
      go_simp
    · refine (HPROG.out w3 h1.ln h1.bel.size).mono ?_
      rintro e w' ⟨P2, D2, rfl, H, hk, aP, aD⟩
      exact ⟨_, rfl, rfl, trivial, by simp only [List.length_cons, List.length_nil, Nat.reduceAdd, (show Free.upd L 6 6 = true from rfl)]; exact hS.call hlow hk H aP aD⟩
  refine Free.Seq2.val ?_ (fun _ => trivial) (fun _ _ h => h) (fun a w3 L hI hp => ?_) ?_
  rotate_left
  · have e16 := hp.slotV 16 (by kernel_rfl) rfl; simp at e16
    refine ⟨Free.want_none rfl, ?_⟩
    clear hp
    go_simp
    rfl
  refine Free.Seq2.val ?_ (fun _ => trivial) (fun _ _ h => h) (fun a w3 L hI hp => ?_) ?_
  rotate_left
  · have e95 := hp.backV 6 1 rfl rfl rfl rfl rfl; have e96 := hp.backV 7 0 rfl rfl rfl rfl rfl
    refine ⟨Free.want_none rfl, ?_⟩
    clear hp
    go_simp
    rfl
  refine Free.Seq2.skip rfl (fun _ => True) (fun _ _ _ _ => trivial) (fun a w3 L hI hp => ?_) ?_
  · have e6 := hp.slotV 6 (by kernel_rfl) rfl; simp at e6; have e89 := hp.backV 0 8 rfl rfl rfl rfl rfl
    obtain ⟨x0, y0, r0, r1, f0, f1⟩ := hI.bx.r
    have hst := hI.stored hw0
    refine ⟨Free.want_none rfl, (w3.setCell ⟨w.heap.size + 2, 0, none⟩ (.int .i64 dl)).setCell ⟨w.heap.size + 2, 1, none⟩ (.slice A2 m2 c2), ?_, trivial, trivial, by simp only [List.length_cons, List.length_nil, Nat.reduceAdd, (show Free.upd L 9 9 = true from rfl)]; exact hst⟩
    clear hp hst
    go_simp
  refine Free.Seq2.val ?_ (fun _ => trivial) (fun _ _ h => h) (fun a w3 L hI hp => ?_) ?_
  rotate_left
  · have e97 := hp.backV 8 1 rfl rfl rfl rfl rfl
    refine ⟨Free.want_none rfl, ?_⟩
    clear hp
    go_simp
    rfl
  refine Free.Seq2.done (by simp) (fun wz L hIz hLz => ?_)
  simp only [List.reverse_cons, List.reverse_nil, List.nil_append, List.cons_append, Free.All, Free.eqF, forall_eq]
  rintro - -
  simp only [Free.putL, Act.put, List.setIfInBounds_toArray, List.set_cons_zero, List.set_cons_succ]
  have hst := hIz.st
  rw [hLz 6 (by decide)] at hst
  obtain ⟨P2, D2, hB9, hOO⟩ := (show ∃ P2 D2, Both w0 g dl nw n2 P2 D2 p2 due2 A2 m2 c2 ws2 wz ∧ ∀ r, (fun r => r = w.heap.size + 2 ∨ (r < w.heap.size ∧ Off r g P D A n)) r → Off r g P2 D2 A2 m2 from hst)
  have HOO := Lib.hid hOO
  have hfin := hIz.fin
  rw [hLz 9 (by decide)] at hfin
  have HF := Lib.hid (show wz.heap[w.heap.size + 2]? = some (lbox dl (.slice A2 m2 c2)) from hfin)
  have HB9 := Lib.hid hB9
  have HKP := Lib.hid hIz.kp
  clear hst hfin hIz hB9 hOO
  go_wp2
  refine bodyPost_ret (results_cell2 rfl _ _ (w.heap.size + 2) _ _ _ _ rfl HF.out Try.underlying38 rfl (by kernel_rfl)) rfl ?_
  obtain rfl := HM.out
  obtain rfl := HWS.out
  exact ⟨nw, m2, P2, D2, p2, due2, A2, c2, rfl, HB9.out, hn, Int.le_refl _, by omega, HD.out, HKP.out, fun r h1 h2 => HOO.out r (.inr ⟨h1, h2⟩)⟩

set_option maxHeartbeats 2000000 in
theorem play_flip (w0 w : World) {g : Nat} {dl nw : Int} {n : Nat} {P D : Value} {p : List UInt8} {due : List Int} {A : Option Addr} {c : Nat} (h : Both w0 g dl nw n P D p due A n c (ways nw p due) w)
    (at_ num : Int) (Aa : Option Addr) (na ca : Nat) (er : Int) (m2 : Nat) (ws2 : List (UInt8 × Int)) (n2 : Nat) (p2 : List UInt8) (due2 : List Int)
    (hdoc : ∀ ps, Both w0 g dl nw n P D p due A n c (ways nw p due) ps → Calls Try.prog 24 #[.agg #[.int .i64 dl, .slice A n c], .int .i64 at_, .int .i64 num] ps fun e w' => ∃ A2 c2, e = .returned (.tuple #[.agg #[.int .i64 dl, .slice A2 m2 c2], .int .i64 er]) ∧ Both w0 g dl nw n P D p due A2 m2 c2 ws2 w' ∧ (∀ r, Off r g P D A n → r < ps.heap.size → Off r g P D A2 m2) ∧ Below ps.heap.size ps w')
    (hprog : ∀ w1, Ln w1 w0.heap.size g dl nw n n P D p due → w0.heap.size ≤ w1.heap.size → Calls Try.prog 19 #[.pointer (some ⟨g, 0, none⟩), .int .i64 at_, .int .i64 num] w1 fun e w' => ∃ P2 D2, e = .returned (.int .i64 er) ∧ Ln w' w0.heap.size g dl nw n2 n2 P2 D2 p2 due2 ∧ Kept (LnS g P D) w1 w' ∧ Anew w1 P P2 ∧ Anew w1 D D2)
    (hm : m2 = n2) (hws : ws2 = ways nw p2 due2) (hn : n2 ≤ 65536) (hd : ∀ d ∈ due2, d ≤ nw + 64) :
    Calls Try.prog 14 #[.pointer (some ⟨g, 0, none⟩), .agg #[.int .i64 dl, .slice A n c], .agg #[.int .i64 4, .int .i64 at_, .int .i64 num, .slice Aa na ca]] w (Plays w0 g dl nw P D A n w) := by
  have hlow := h.low
  have hw0 := h.bel.size
  have OF0 := Lib.hid (h.off (r := w.heap.size + 2) (by omega))
  have HB := Lib.hid (h.grow (below_start w dl (.slice A n c) #[.int .i64 4, .int .i64 at_, .int .i64 num, .slice Aa na ca]))
  have HX := Lib.hid (BX.init w dl (.slice A n c) #[.int .i64 4, .int .i64 at_, .int .i64 num, .slice Aa na ca])
  have HDOC := Lib.hid hdoc
  have HPROG := Lib.hid hprog
  have HM := Lib.hid hm
  have HWS := Lib.hid hws
  have HD := Lib.hid hd
  clear h hdoc hprog hm hws hd
  go_enter Try.func14, Try.ntmps14
  go_wp2_with fail
  refine (HDOC.out _ HB.out).mono ?_
  rintro e w1 ⟨A2, c2, rfl, hB1, hO1, hb1⟩
  have HX1 := Lib.hid ((HX.out.below hb1).below ((Below.refl _ _).alloc (Nat.le_refl _) (lbox dl (.slice A2 m2 c2))))
  have HB1 := Lib.hid (hB1.grow ((Below.refl _ _).alloc (Nat.le_refl _) (lbox dl (.slice A2 m2 c2))))
  have hv1 : w.heap.size + 3 ≤ w1.heap.size := by have := hb1.size; simpa using this
  have HI := Lib.hid (show PI w0 w g dl nw n P D p due n2 p2 due2 A2 m2 c2 ws2 (.slice A n c) #[.int .i64 4, .int .i64 at_, .int .i64 num, .slice Aa na ca] w1.heap.size (fun r => r = w.heap.size + 2 ∨ (r < w.heap.size ∧ Off r g P D A n)) false false (w1.alloc (lbox dl (.slice A2 m2 c2))) from
    ⟨HX1.out, heap_alloc_new _ _, hv1, ⟨HB1.out, fun r hr => hO1 r (by rcases hr with rfl | hr; exact OF0.out; exact hr.2) (by rcases hr with rfl | hr <;> simp <;> omega)⟩, trivial, Kept.all (((below_start w dl (.slice A n c) #[.int .i64 4, .int .i64 at_, .int .i64 num, .slice Aa na ca]).trans (hb1.mono (below_start w dl (.slice A n c) #[.int .i64 4, .int .i64 at_, .int .i64 num, .slice Aa na ca]).size)).alloc (by omega) (lbox dl (.slice A2 m2 c2))), fun r hr => by rcases hr with rfl | hr <;> omega, .inl rfl⟩)
  clear hB1 hO1 hb1
  go_wp2_with fail
  refine Free.wp_seq2 (I := fun L w' => PI w0 w g dl nw n P D p due n2 p2 due2 A2 m2 c2 ws2 (.slice A n c) #[.int .i64 4, .int .i64 at_, .int .i64 num, .slice Aa na ca] w1.heap.size (fun r => r = w.heap.size + 2 ∨ (r < w.heap.size ∧ Off r g P D A n)) (L 6) (L 9) w') (Gr := fun _ _ => True) (by kernel_rfl) (by kernel_rfl) HI.out.drew ?_
  refine Free.Seq2.val ?_ (fun _ => trivial) (fun _ _ h => h) (fun a w3 L hI hp => ?_) ?_
  rotate_left
  · have e17 := hp.slotV 17 (by kernel_rfl) rfl; simp at e17
    have k0 := hI.vc 0
    have k1 := hI.vc 1
    refine ⟨Free.want_none rfl, ?_⟩
    clear hp
    go_simp
    rfl
  refine Free.Seq2.val ?_ (fun _ => trivial) (fun _ _ h => h) (fun a w3 L hI hp => ?_) ?_
  rotate_left
  · have e0 := hp.slotV 0 (by kernel_rfl) rfl; simp at e0
    refine ⟨Free.want_none rfl, ?_⟩
    clear hp
    go_simp
    rfl
  refine Free.Seq2.val ?_ (fun _ => trivial) (fun _ _ h => h) (fun a w3 L hI hp => ?_) ?_
  rotate_left
  · have e5 := hp.slotV 5 (by kernel_rfl) rfl; simp at e5
    refine ⟨Free.want_none rfl, ?_⟩
    clear hp
    go_simp
    rfl
  refine Free.Seq2.val ?_ (fun _ => trivial) (fun _ _ h => h) (fun a w3 L hI hp => ?_) ?_
  rotate_left
  · have e111 := hp.backV 2 0 rfl rfl rfl rfl rfl
    have k2 := hI.bx.a 1
    refine ⟨Free.want_none rfl, ?_⟩
    clear hp
    go_simp
    rfl
  refine Free.Seq2.val ?_ (fun _ => trivial) (fun _ _ h => h) (fun a w3 L hI hp => ?_) ?_
  rotate_left
  · have e5 := hp.slotV 5 (by kernel_rfl) rfl; simp at e5
    refine ⟨Free.want_none rfl, ?_⟩
    clear hp
    go_simp
    rfl
  refine Free.Seq2.val ?_ (fun _ => trivial) (fun _ _ h => h) (fun a w3 L hI hp => ?_) ?_
  rotate_left
  · have e113 := hp.backV 4 0 rfl rfl rfl rfl rfl
    have k3 := hI.bx.a 2
    refine ⟨Free.want_none rfl, ?_⟩
    clear hp
    go_simp
    rfl
  refine Free.Seq2.call (T := Free.eqF (.int .i64 er)) (fun _ _ _ h _ => h) (fun a w3 L hI hp => ?_) ?_
  · have e110 := hp.backV 1 4 rfl rfl rfl rfl rfl; have e112 := hp.backV 3 2 rfl rfl rfl rfl rfl; have e114 := hp.backV 5 0 rfl rfl rfl rfl rfl
    have hf : L 6 = false := hp.fresh
    have hS := hI
    rw [hf] at hS
    obtain ⟨h1, h2⟩ := (show Both w0 g dl nw n P D p due A2 m2 c2 ws2 w3 ∧ ∀ r, (fun r => r = w.heap.size + 2 ∨ (r < w.heap.size ∧ Off r g P D A n)) r → Off r g P D A2 m2 from hS.st)
    refine ⟨Free.want_none rfl, 19, #[.pointer (some ⟨g, 0, none⟩), .int .i64 at_, .int .i64 num], ?_, ?_⟩
    · clear hp
      go_simp
    · refine (HPROG.out w3 h1.ln h1.bel.size).mono ?_
      rintro e w' ⟨P2, D2, rfl, H, hk, aP, aD⟩
      exact ⟨_, rfl, rfl, trivial, by simp only [List.length_cons, List.length_nil, Nat.reduceAdd, (show Free.upd L 6 6 = true from rfl)]; exact hS.call hlow hk H aP aD⟩
  refine Free.Seq2.val ?_ (fun _ => trivial) (fun _ _ h => h) (fun a w3 L hI hp => ?_) ?_
  rotate_left
  · have e18 := hp.slotV 18 (by kernel_rfl) rfl; simp at e18
    refine ⟨Free.want_none rfl, ?_⟩
    clear hp
    go_simp
    rfl
  refine Free.Seq2.val ?_ (fun _ => trivial) (fun _ _ h => h) (fun a w3 L hI hp => ?_) ?_
  rotate_left
  · have e115 := hp.backV 6 1 rfl rfl rfl rfl rfl; have e116 := hp.backV 7 0 rfl rfl rfl rfl rfl
    refine ⟨Free.want_none rfl, ?_⟩
    clear hp
    go_simp
    rfl
  refine Free.Seq2.skip rfl (fun _ => True) (fun _ _ _ _ => trivial) (fun a w3 L hI hp => ?_) ?_
  · have e6 := hp.slotV 6 (by kernel_rfl) rfl; simp at e6; have e109 := hp.backV 0 8 rfl rfl rfl rfl rfl
    obtain ⟨x0, y0, r0, r1, f0, f1⟩ := hI.bx.r
    have hst := hI.stored hw0
    refine ⟨Free.want_none rfl, (w3.setCell ⟨w.heap.size + 2, 0, none⟩ (.int .i64 dl)).setCell ⟨w.heap.size + 2, 1, none⟩ (.slice A2 m2 c2), ?_, trivial, trivial, by simp only [List.length_cons, List.length_nil, Nat.reduceAdd, (show Free.upd L 9 9 = true from rfl)]; exact hst⟩
    clear hp hst
    go_simp
  refine Free.Seq2.val ?_ (fun _ => trivial) (fun _ _ h => h) (fun a w3 L hI hp => ?_) ?_
  rotate_left
  · have e117 := hp.backV 8 1 rfl rfl rfl rfl rfl
    refine ⟨Free.want_none rfl, ?_⟩
    clear hp
    go_simp
    rfl
  refine Free.Seq2.done (by simp) (fun wz L hIz hLz => ?_)
  simp only [List.reverse_cons, List.reverse_nil, List.nil_append, List.cons_append, Free.All, Free.eqF, forall_eq]
  rintro - -
  simp only [Free.putL, Act.put, List.setIfInBounds_toArray, List.set_cons_zero, List.set_cons_succ]
  have hst := hIz.st
  rw [hLz 6 (by decide)] at hst
  obtain ⟨P2, D2, hB9, hOO⟩ := (show ∃ P2 D2, Both w0 g dl nw n2 P2 D2 p2 due2 A2 m2 c2 ws2 wz ∧ ∀ r, (fun r => r = w.heap.size + 2 ∨ (r < w.heap.size ∧ Off r g P D A n)) r → Off r g P2 D2 A2 m2 from hst)
  have HOO := Lib.hid hOO
  have hfin := hIz.fin
  rw [hLz 9 (by decide)] at hfin
  have HF := Lib.hid (show wz.heap[w.heap.size + 2]? = some (lbox dl (.slice A2 m2 c2)) from hfin)
  have HB9 := Lib.hid hB9
  have HKP := Lib.hid hIz.kp
  clear hst hfin hIz hB9 hOO
  go_wp2
  refine bodyPost_ret (results_cell2 rfl _ _ (w.heap.size + 2) _ _ _ _ rfl HF.out Try.underlying38 rfl (by kernel_rfl)) rfl ?_
  obtain rfl := HM.out
  obtain rfl := HWS.out
  exact ⟨nw, m2, P2, D2, p2, due2, A2, c2, rfl, HB9.out, hn, Int.le_refl _, by omega, HD.out, HKP.out, fun r h1 h2 => HOO.out r (.inr ⟨h1, h2⟩)⟩

set_option maxHeartbeats 2000000 in
theorem play_insert (w0 w : World) {g : Nat} {dl nw : Int} {n : Nat} {P D : Value} {p : List UInt8} {due : List Int} {A : Option Addr} {c : Nat} (h : Both w0 g dl nw n P D p due A n c (ways nw p due) w)
    (at_ num : Int) (Aa : Option Addr) (na ca : Nat) (er : Int) (m2 : Nat) (ws2 : List (UInt8 × Int)) (n2 : Nat) (p2 : List UInt8) (due2 : List Int) (bb : UInt8) (hbb : IntKind.u8.wrap num = (bb.toNat : Int))
    (hdoc : ∀ ps, Both w0 g dl nw n P D p due A n c (ways nw p due) ps → Calls Try.prog 25 #[.agg #[.int .i64 dl, .slice A n c], .int .i64 at_, bv bb] ps fun e w' => ∃ A2 c2, e = .returned (.tuple #[.agg #[.int .i64 dl, .slice A2 m2 c2], .int .i64 er]) ∧ Both w0 g dl nw n P D p due A2 m2 c2 ws2 w' ∧ (∀ r, Off r g P D A n → r < ps.heap.size → Off r g P D A2 m2) ∧ Below ps.heap.size ps w')
    (hprog : ∀ w1, Ln w1 w0.heap.size g dl nw n n P D p due → w0.heap.size ≤ w1.heap.size → Calls Try.prog 17 #[.pointer (some ⟨g, 0, none⟩), .int .i64 at_, bv bb] w1 fun e w' => ∃ P2 D2, e = .returned (.int .i64 er) ∧ Ln w' w0.heap.size g dl nw n2 n2 P2 D2 p2 due2 ∧ Kept (LnS g P D) w1 w' ∧ Anew w1 P P2 ∧ Anew w1 D D2)
    (hm : m2 = n2) (hws : ws2 = ways nw p2 due2) (hn : n2 ≤ 65536) (hd : ∀ d ∈ due2, d ≤ nw + 64) :
    Calls Try.prog 14 #[.pointer (some ⟨g, 0, none⟩), .agg #[.int .i64 dl, .slice A n c], .agg #[.int .i64 5, .int .i64 at_, .int .i64 num, .slice Aa na ca]] w (Plays w0 g dl nw P D A n w) := by
  have hlow := h.low
  have hw0 := h.bel.size
  have OF0 := Lib.hid (h.off (r := w.heap.size + 2) (by omega))
  have HB := Lib.hid (h.grow (below_start w dl (.slice A n c) #[.int .i64 5, .int .i64 at_, .int .i64 num, .slice Aa na ca]))
  have HX := Lib.hid (BX.init w dl (.slice A n c) #[.int .i64 5, .int .i64 at_, .int .i64 num, .slice Aa na ca])
  have HDOC := Lib.hid hdoc
  have HPROG := Lib.hid hprog
  have HM := Lib.hid hm
  have HWS := Lib.hid hws
  have HD := Lib.hid hd
  clear h hdoc hprog hm hws hd
  go_enter Try.func14, Try.ntmps14
  go_wp2_with fail
  refine (HDOC.out _ HB.out).mono ?_
  rintro e w1 ⟨A2, c2, rfl, hB1, hO1, hb1⟩
  have HX1 := Lib.hid ((HX.out.below hb1).below ((Below.refl _ _).alloc (Nat.le_refl _) (lbox dl (.slice A2 m2 c2))))
  have HB1 := Lib.hid (hB1.grow ((Below.refl _ _).alloc (Nat.le_refl _) (lbox dl (.slice A2 m2 c2))))
  have hv1 : w.heap.size + 3 ≤ w1.heap.size := by have := hb1.size; simpa using this
  have HI := Lib.hid (show PI w0 w g dl nw n P D p due n2 p2 due2 A2 m2 c2 ws2 (.slice A n c) #[.int .i64 5, .int .i64 at_, .int .i64 num, .slice Aa na ca] w1.heap.size (fun r => r = w.heap.size + 2 ∨ (r < w.heap.size ∧ Off r g P D A n)) false false (w1.alloc (lbox dl (.slice A2 m2 c2))) from
    ⟨HX1.out, heap_alloc_new _ _, hv1, ⟨HB1.out, fun r hr => hO1 r (by rcases hr with rfl | hr; exact OF0.out; exact hr.2) (by rcases hr with rfl | hr <;> simp <;> omega)⟩, trivial, Kept.all (((below_start w dl (.slice A n c) #[.int .i64 5, .int .i64 at_, .int .i64 num, .slice Aa na ca]).trans (hb1.mono (below_start w dl (.slice A n c) #[.int .i64 5, .int .i64 at_, .int .i64 num, .slice Aa na ca]).size)).alloc (by omega) (lbox dl (.slice A2 m2 c2))), fun r hr => by rcases hr with rfl | hr <;> omega, .inl rfl⟩)
  clear hB1 hO1 hb1
  go_wp2_with fail
  refine Free.wp_seq2 (I := fun L w' => PI w0 w g dl nw n P D p due n2 p2 due2 A2 m2 c2 ws2 (.slice A n c) #[.int .i64 5, .int .i64 at_, .int .i64 num, .slice Aa na ca] w1.heap.size (fun r => r = w.heap.size + 2 ∨ (r < w.heap.size ∧ Off r g P D A n)) (L 7) (L 10) w') (Gr := fun _ _ => True) (by kernel_rfl) (by kernel_rfl) HI.out.drew ?_
  refine Free.Seq2.val ?_ (fun _ => trivial) (fun _ _ h => h) (fun a w3 L hI hp => ?_) ?_
  rotate_left
  · have e19 := hp.slotV 19 (by kernel_rfl) rfl; simp at e19
    have k0 := hI.vc 0
    have k1 := hI.vc 1
    refine ⟨Free.want_none rfl, ?_⟩
    clear hp
    go_simp
    rfl
  refine Free.Seq2.val ?_ (fun _ => trivial) (fun _ _ h => h) (fun a w3 L hI hp => ?_) ?_
  rotate_left
  · have e0 := hp.slotV 0 (by kernel_rfl) rfl; simp at e0
    refine ⟨Free.want_none rfl, ?_⟩
    clear hp
    go_simp
    rfl
  refine Free.Seq2.val ?_ (fun _ => trivial) (fun _ _ h => h) (fun a w3 L hI hp => ?_) ?_
  rotate_left
  · have e5 := hp.slotV 5 (by kernel_rfl) rfl; simp at e5
    refine ⟨Free.want_none rfl, ?_⟩
    clear hp
    go_simp
    rfl
  refine Free.Seq2.val ?_ (fun _ => trivial) (fun _ _ h => h) (fun a w3 L hI hp => ?_) ?_
  rotate_left
  · have e132 := hp.backV 2 0 rfl rfl rfl rfl rfl
    have k2 := hI.bx.a 1
    refine ⟨Free.want_none rfl, ?_⟩
    clear hp
    go_simp
    rfl
  refine Free.Seq2.val ?_ (fun _ => trivial) (fun _ _ h => h) (fun a w3 L hI hp => ?_) ?_
  rotate_left
  · have e5 := hp.slotV 5 (by kernel_rfl) rfl; simp at e5
    refine ⟨Free.want_none rfl, ?_⟩
    clear hp
    go_simp
    rfl
  refine Free.Seq2.val ?_ (fun _ => trivial) (fun _ _ h => h) (fun a w3 L hI hp => ?_) ?_
  rotate_left
  · have e134 := hp.backV 4 0 rfl rfl rfl rfl rfl
    have k3 := hI.bx.a 2
    refine ⟨Free.want_none rfl, ?_⟩
    clear hp
    go_simp
    rfl
  refine Free.Seq2.val ?_ (fun _ => trivial) (fun _ _ h => h) (fun a w3 L hI hp => ?_) ?_
  rotate_left
  · have e135 := hp.backV 5 0 rfl rfl rfl rfl rfl
    refine ⟨Free.want_none rfl, ?_⟩
    clear hp
    go_simp
    rfl
  refine Free.Seq2.call (T := Free.eqF (.int .i64 er)) (fun _ _ _ h _ => h) (fun a w3 L hI hp => ?_) ?_
  · have e131 := hp.backV 1 5 rfl rfl rfl rfl rfl; have e133 := hp.backV 3 3 rfl rfl rfl rfl rfl; have e136 := hp.backV 6 0 rfl rfl rfl rfl rfl
    have hf : L 7 = false := hp.fresh
    have hS := hI
    rw [hf] at hS
    obtain ⟨h1, h2⟩ := (show Both w0 g dl nw n P D p due A2 m2 c2 ws2 w3 ∧ ∀ r, (fun r => r = w.heap.size + 2 ∨ (r < w.heap.size ∧ Off r g P D A n)) r → Off r g P D A2 m2 from hS.st)
    refine ⟨Free.want_none rfl, 17, #[.pointer (some ⟨g, 0, none⟩), .int .i64 at_, bv bb], ?_, ?_⟩
    · clear hp
      go_simp
    · refine (HPROG.out w3 h1.ln h1.bel.size).mono ?_
      rintro e w' ⟨P2, D2, rfl, H, hk, aP, aD⟩
      exact ⟨_, rfl, rfl, trivial, by simp only [List.length_cons, List.length_nil, Nat.reduceAdd, (show Free.upd L 7 7 = true from rfl)]; exact hS.call hlow hk H aP aD⟩
  refine Free.Seq2.val ?_ (fun _ => trivial) (fun _ _ h => h) (fun a w3 L hI hp => ?_) ?_
  rotate_left
  · have e20 := hp.slotV 20 (by kernel_rfl) rfl; simp at e20
    refine ⟨Free.want_none rfl, ?_⟩
    clear hp
    go_simp
    rfl
  refine Free.Seq2.val ?_ (fun _ => trivial) (fun _ _ h => h) (fun a w3 L hI hp => ?_) ?_
  rotate_left
  · have e137 := hp.backV 7 1 rfl rfl rfl rfl rfl; have e138 := hp.backV 8 0 rfl rfl rfl rfl rfl
    refine ⟨Free.want_none rfl, ?_⟩
    clear hp
    go_simp
    rfl
  refine Free.Seq2.skip rfl (fun _ => True) (fun _ _ _ _ => trivial) (fun a w3 L hI hp => ?_) ?_
  · have e6 := hp.slotV 6 (by kernel_rfl) rfl; simp at e6; have e130 := hp.backV 0 9 rfl rfl rfl rfl rfl
    obtain ⟨x0, y0, r0, r1, f0, f1⟩ := hI.bx.r
    have hst := hI.stored hw0
    refine ⟨Free.want_none rfl, (w3.setCell ⟨w.heap.size + 2, 0, none⟩ (.int .i64 dl)).setCell ⟨w.heap.size + 2, 1, none⟩ (.slice A2 m2 c2), ?_, trivial, trivial, by simp only [List.length_cons, List.length_nil, Nat.reduceAdd, (show Free.upd L 10 10 = true from rfl)]; exact hst⟩
    clear hp hst
    go_simp
  refine Free.Seq2.val ?_ (fun _ => trivial) (fun _ _ h => h) (fun a w3 L hI hp => ?_) ?_
  rotate_left
  · have e139 := hp.backV 9 1 rfl rfl rfl rfl rfl
    refine ⟨Free.want_none rfl, ?_⟩
    clear hp
    go_simp
    rfl
  refine Free.Seq2.done (by simp) (fun wz L hIz hLz => ?_)
  simp only [List.reverse_cons, List.reverse_nil, List.nil_append, List.cons_append, Free.All, Free.eqF, forall_eq]
  rintro - -
  simp only [Free.putL, Act.put, List.setIfInBounds_toArray, List.set_cons_zero, List.set_cons_succ]
  have hst := hIz.st
  rw [hLz 7 (by decide)] at hst
  obtain ⟨P2, D2, hB9, hOO⟩ := (show ∃ P2 D2, Both w0 g dl nw n2 P2 D2 p2 due2 A2 m2 c2 ws2 wz ∧ ∀ r, (fun r => r = w.heap.size + 2 ∨ (r < w.heap.size ∧ Off r g P D A n)) r → Off r g P2 D2 A2 m2 from hst)
  have HOO := Lib.hid hOO
  have hfin := hIz.fin
  rw [hLz 10 (by decide)] at hfin
  have HF := Lib.hid (show wz.heap[w.heap.size + 2]? = some (lbox dl (.slice A2 m2 c2)) from hfin)
  have HB9 := Lib.hid hB9
  have HKP := Lib.hid hIz.kp
  clear hst hfin hIz hB9 hOO
  go_wp2
  refine bodyPost_ret (results_cell2 rfl _ _ (w.heap.size + 2) _ _ _ _ rfl HF.out Try.underlying38 rfl (by kernel_rfl)) rfl ?_
  obtain rfl := HM.out
  obtain rfl := HWS.out
  exact ⟨nw, m2, P2, D2, p2, due2, A2, c2, rfl, HB9.out, hn, Int.le_refl _, by omega, HD.out, HKP.out, fun r h1 h2 => HOO.out r (.inr ⟨h1, h2⟩)⟩


end Go.Proofs.Ytgiboekjjnmnnaa
