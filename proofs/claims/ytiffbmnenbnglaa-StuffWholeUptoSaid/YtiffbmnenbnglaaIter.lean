/-
  A RANGE OVER A FUNCTION WHOSE ITERATOR IS KNOWN TO HAND OUT A GIVEN LIST, each piece as new memory of its own: the contract of such an iterator (SeqOf), and the law of the statement (wp_rangeSeq).
-/
import Derived.Test.YtiffbmnenbnglaaOwn
import Derived.RangeFuncNested
import Derived.RangeFuncBound
import Derived.RangeFuncCalls
import Derived.RangeFuncLeaves
import Derived.OrdersIn
import Derived.Test.YtiffbmnenbnglaaFree
namespace Go.Proofs.Ytiffbmnenbnglaa
open Go.RowKit

/-- the blocks of S that there are lie as they lay; the streams are as they were -/
structure Same (S : Nat → Prop) (A B : World) : Prop where
  os : B.os = A.os
  tape : B.tape = A.tape
  output : B.output = A.output
  size : A.heap.size ≤ B.heap.size
  block : ∀ k, k < A.heap.size → S k → B.heap[k]? = A.heap[k]?

namespace Same
variable {S S' : Nat → Prop} {A B C : World}
theorem refl (S : Nat → Prop) (A : World) : Same S A A := ⟨rfl, rfl, rfl, Nat.le_refl _, fun _ _ _ => rfl⟩
theorem trans (h : Same S A B) (k : Same S B C) : Same S A C :=
  ⟨k.os.trans h.os, k.tape.trans h.tape, k.output.trans h.output, Nat.le_trans h.size k.size, fun i hi hs => (k.block i (Nat.lt_of_lt_of_le hi h.size) hs).trans (h.block i hi hs)⟩
theorem mono (h : Same S A B) (hs : ∀ k, k < A.heap.size → S' k → S k) : Same S' A B := ⟨h.os, h.tape, h.output, h.size, fun k hk h' => h.block k hk (hs k hk h')⟩
theorem of_below {n : Nat} (h : Below n A B) (hs : ∀ k, k < A.heap.size → S k → k < n) : Same S A B := ⟨h.os, h.tape, h.output, h.size, fun k hk h' => h.block k (hs k hk h')⟩
theorem below {n : Nat} (h : Same S A B) (hn : n ≤ A.heap.size) (hs : ∀ k, k < n → S k) : Below n A B := ⟨h.os, h.tape, h.output, h.size, fun k hk => h.block k (Nat.lt_of_lt_of_le hk hn) (hs k hk)⟩
theorem alloc (h : Same S A B) (o : Obj) : Same S A (B.alloc o) := h.trans (of_below (Below.refl B.heap.size B |>.alloc (Nat.le_refl _) o) fun _ hk _ => hk)
theorem drew (h : Same S A B) : Same S A B.drew := ⟨h.os, h.tape, h.output, h.size, h.block⟩
theorem setCell (h : Same S A B) {p : Addr} (hp : ¬ S p.block) (u : Value) : Same S A (B.setCell p u) :=
  h.trans ⟨rfl, rfl, rfl, by simp [World.setCell], fun k _ hs => Below.heap_setCell _ _ _ _ (fun e => hp (e ▸ hs))⟩
theorem putObj (h : Same S A B) {r : Nat} (hr : ¬ S r) (o : Obj) : Same S A (B.putObj r o) :=
  h.trans ⟨rfl, rfl, rfl, by simp, fun k _ hs => World.putObj_heap_other (fun e => hr (e ▸ hs))⟩
theorem grown (h : Same S A B) {row : Option Nat} (hg : B.grownBy C row) (hr : ∀ k, row = some k → ¬ S k) : Same S A C :=
  h.trans ⟨hg.os, hg.tape, hg.output, hg.size, fun k hk hs => hg.block k hk (fun e => hr k e.symm hs)⟩
end Same

/-- the contract of an iterator value that hands out the list xs: St: what it keeps itself; Nd: what it needs kept -/
def SeqOf (P : Program) (g : Nat) (lb : Array Value) (St Nd : Nat → Prop) (xs : List (List UInt8)) (w : World) : Prop :=
  ∀ (n l : Nat) (J Jx : Nat → World → Prop) (W : World), Same Nd w W → (∀ k A B, J k A → Same St A B → J k B) →
    (∀ k q A c W0 W1, J k W0 → Same (fun _ => True) W0 W1 → W.heap.size ≤ W0.heap.size → xs[k]? = some q → Sl W1 W0.heap.size 5 (.slice A q.length c) q.length (bs q) → YieldAt Fence.wide n P l #[.slice A q.length c] W1 fun e W' =>
      (e = .returned (.bool true) ∧ J (k + 1) W' ∧ Same Nd W1 W') ∨ (e = .returned (.bool false) ∧ Jx (k + 1) W')) →
    J 0 W → Calls P g (#[.func (.yield l) #[] #[]] ++ lb) W fun e W' => (∃ v, e = .returned v) ∧ (J xs.length W' ∨ ∃ k, k ≤ xs.length ∧ Jx k W')

theorem SeqOf.later {P : Program} {g : Nat} {lb : Array Value} {St Nd : Nat → Prop} {xs : List (List UInt8)} {w w' : World} (h : SeqOf P g lb St Nd xs w) (hs : Same Nd w w') : SeqOf P g lb St Nd xs w' :=
  fun n l J Jx W hW hJ hY h0 => h n l J Jx W (hs.trans hW) hJ hY h0

/-- how a round may be left -/
def rndPost (S : Nat → Prop) (I : Nat → World → Prop) (Ix : Code → Nat → World → Prop) (k : Nat) (W : World) : Exit → Act → World → Prop
  | .normal, _, W' => Same S W W' ∧ I k W'
  | .ret, _, W' => Same S W W' ∧ Ix .ret k W'
  | .exit id, _, W' => Same S W W' ∧ Ix (.exit id) k W'
  | .goto t, _, W' => Same S W W' ∧ Ix (.goto t) k W'
  | .panic _, _, _ => False
  | .outgrown, _, _ => False

theorem wp_rangeSeq {P : Program} {g : Operand} {ps : Array Tmp} {assign body : Code} {Q : Exit → Act → World → Prop} {a : Act} {w : World}
    {gf : Nat} {lb : Array Value} (hg : a.eval g = .func (.func gf) #[] lb) (eg : ∀ args w, (callFunc gf args).run P w = .ok (.enter gf args) w)
    {St Nd : Nat → Prop} {xs : List (List UInt8)} (hseq : SeqOf P gf lb St Nd xs w) (hps : ps.size = 1) (hSt : ∀ k, w.heap.size ≤ k → St k) (hNd : ∀ k, Nd k → k < w.heap.size)
    (I : Nat → World → Prop) (Ix : Code → Nat → World → Prop)
    (hI : ∀ k A B, I k A → Same (fun j => St j ∧ j ≠ w.heap.size ∧ j ≠ w.heap.size + 1) A B → I k B)
    (hIx : ∀ c k A B, Ix c k A → Same (fun j => j ≠ w.heap.size + 1) A B → Ix c k B) (h0 : I 0 w) (a₁ : Value → Act) (n : Nat)
    (hassign : ∀ (l : Nat) (v : Value) (W : World) (K : Act → World → Prop), K (a₁ v) W →
      assign.wpIn (Fence.wide.inRound l) n P (Exit.then K (fun _ _ _ => False)) { tmps := (ps.zip #[v]).foldl (fun t (p, v) => t.setIfInBounds p v) a.tmps, defers := [] } W)
    (hbody : ∀ (l k : Nat) (q : List UInt8) (A : Option Addr) (c : Nat) (W : World), I k W → w.heap.size + 2 ≤ W.heap.size → xs[k]? = some q → Sl W (w.heap.size + 2) 5 (.slice A q.length c) q.length (bs q) →
      (∃ W0, I k W0 ∧ w.heap.size + 2 ≤ W0.heap.size ∧ Same (fun j => j ≠ w.heap.size + 1) W0 W ∧ Sl W W0.heap.size 5 (.slice A q.length c) q.length (bs q)) →
      body.wpIn (Fence.wide.inRound l) n P (rndPost (fun j => Nd j ∨ j = w.heap.size ∨ j = w.heap.size + 1) I Ix (k + 1) W) (a₁ (.slice A q.length c)) W)
    (hdone : ∀ W, I xs.length W → W.heap[w.heap.size]? = some (.deferred (some [])) → w.heap.size + 2 ≤ W.heap.size → Q .normal { a with defers := { target := .collected w.heap.size, args := #[] } :: a.defers } W)
    (hstop : ∀ c k W, Ix c k W → k ≤ xs.length → W.heap[w.heap.size]? = some (.deferred (some [])) → w.heap.size + 2 ≤ W.heap.size → c.wp P Q { a with defers := { target := .collected w.heap.size, args := #[] } :: a.defers } W) :
    (Code.rangeFunc g ps assign body).wp P Q a w := by
  refine (wpIn_wide (n := n + 2)).1 (wpIn_rangeFunc ?_)
  intro fn hfn
  obtain ⟨rec, hrec⟩ : ∃ rec : LoopState → Option Code → Loop, rec = fun st pe => { state := st, pending := pe, fn, tmps := a.tmps, params := ps, assign, body, defers := w.heap.size } := ⟨_, rfl⟩
  obtain ⟨D, hD⟩ : ∃ D, D = w.heap.size := ⟨_, rfl⟩
  obtain ⟨W1, hW1⟩ : ∃ W1, (w.alloc (.deferred (some []))).alloc (.loop (rec .ready none)) = W1 := ⟨_, rfl⟩
  have s1 : ∀ S, Same S w W1 := fun S => by rw [← hW1]; exact ((Same.refl S w).alloc _).alloc _
  have z1 : W1.heap.size = D + 2 := by rw [← hW1, hD]; simp
  have hL1 : W1.heap[D + 1]? = some (.loop (rec .ready none)) := by
    rw [← hW1, hD]; have := World.alloc_heap_new (w.alloc (.deferred (some []))) (.loop (rec .ready none)); rwa [World.size_alloc] at this
  have hK1 : W1.heap[D]? = some (.deferred (some [])) := by
    rw [← hW1, hD]; exact (Below.heap_alloc _ _ _ (by simp)).trans (World.alloc_heap_new w _)
  rw [← hD] at hSt hNd hI hIx hbody hdone hstop
  refine ⟨D + 1, [{ target := .collected D, args := #[] }], W1, { target := .fn (.func gf) lb, args := #[.func (.yield (D + 1)) #[] #[]] }, W1, gf,
    #[.func (.yield (D + 1)) #[] #[]] ++ lb, W1, ?_, ?_, ?_, ?_, ?_, ?_⟩
  · rw [← hW1, hrec, hD]; exact run_enterLoop_outer _ _ _ _ _
  · simp only [resolve, hg]
    simp [go_sem]
  · intro f' _; trivial
  · simp [invoke, go_sem, eg]
  · intro h; cases h
  refine CallsIn.mono (callsIn_wide.2 (hseq n (D + 1)
      (fun k W => I k W ∧ D + 2 ≤ W.heap.size ∧ W.heap[D + 1]? = some (.loop (rec .ready none)) ∧ W.heap[D]? = some (.deferred (some [])))
      (fun k W => ∃ c, Ix c k W ∧ D + 2 ≤ W.heap.size ∧ W.heap[D + 1]? = some (.loop (rec .done (some c))) ∧ W.heap[D]? = some (.deferred (some []))) W1 (s1 _) ?_ ?_ ?_)) ?_
  · rintro k A B ⟨hi, hz, hl, hk⟩ hs
    exact ⟨hI k A B hi (hs.mono fun _ _ h => h.1), Nat.le_trans hz hs.size, (hs.block _ (by omega) (hSt _ (by omega))).trans hl, (hs.block _ (by omega) (hSt _ (by omega))).trans hk⟩
  · -- one round
    rintro k q A c W0 W ⟨hi0, hz0, hl0, hk0⟩ hs01 hW0 hq hsl0
    have hi : I k W := hI k W0 W hi0 (hs01.mono fun _ _ _ => trivial)
    have hz : D + 2 ≤ W.heap.size := Nat.le_trans hz0 hs01.size
    have hl := (hs01.block _ (by omega) trivial).trans hl0
    have hk := (hs01.block _ (by omega) trivial).trans hk0
    have hsl : Sl W W1.heap.size 5 (.slice A q.length c) q.length (bs q) := hsl0.base fun j hj => by have := (hsl0.lt j hj).1; omega
    have hy := run_yield (P := P) (args := #[.slice A q.length c]) hl (by rw [hrec]; simpa using hps.symm)
    rw [hrec] at hy
    refine ⟨fn, _, assign, body, hy, roundIn_of_wpIn hfn (hassign _ (.slice A q.length c) W _ ?_)⟩
    refine ⟨_, run_beginRound hl (by rw [hrec]), ?_⟩
    obtain ⟨W2, hW2⟩ : ∃ W2, W.putObj (D + 1) (.loop { rec .ready none with state := .busy }) = W2 := ⟨_, rfl⟩
    rw [hW2]
    have s2 : ∀ S : Nat → Prop, ¬ S (D + 1) → Same S W W2 := fun S hS => by rw [← hW2]; exact (Same.refl S W).putObj hS _
    have hl2 : W2.heap[D + 1]? = some (.loop { rec .ready none with state := .busy }) := by rw [← hW2]; exact World.putObj_heap_same (by omega)
    have hk2 : W2.heap[D]? = some (.deferred (some [])) := by rw [← hW2]; exact (World.putObj_heap_other (by omega)).trans hk
    have z2 : W2.heap.size = W.heap.size := by rw [← hW2]; simp
    have hi2 : I k W2 := hI k W W2 hi (s2 _ (by simp))
    have hsl2 : Sl W2 (D + 2) 5 (.slice A q.length c) q.length (bs q) := by
      rw [z1] at hsl
      exact hsl.kept fun j hj => by rw [← hW2]; exact World.putObj_heap_other (by have := (hsl.lt j hj).1; omega)
    have hsl3 : Sl W2 W0.heap.size 5 (.slice A q.length c) q.length (bs q) :=
      hsl0.kept fun j hj => by rw [← hW2]; exact World.putObj_heap_other (by have := (hsl0.lt j hj).1; omega)
    refine wpIn_mono (hbody _ k q A c W2 hi2 (by omega) hq hsl2 ⟨W0, hi0, hz0, (hs01.mono fun _ _ _ => trivial).trans (s2 _ (by simp)), hsl3⟩) ?_
    have fin : ∀ (jump : Option Code) (W3 : World), Same (fun j => Nd j ∨ j = D ∨ j = D + 1) W2 W3 →
        (Instr.endRound (D + 1) jump).run P W3 = .ok (.bool jump.isNone) (W3.putObj (D + 1) (.loop (rec (if jump.isNone then .ready else .done) jump))) ∧
        D + 2 ≤ (W3.putObj (D + 1) (.loop (rec (if jump.isNone then .ready else .done) jump))).heap.size ∧
        (W3.putObj (D + 1) (.loop (rec (if jump.isNone then .ready else .done) jump))).heap[D + 1]? = some (.loop (rec (if jump.isNone then .ready else .done) jump)) ∧
        (W3.putObj (D + 1) (.loop (rec (if jump.isNone then .ready else .done) jump))).heap[D]? = some (.deferred (some [])) := fun jump W3 h3 => by
      have hl3 := (h3.block _ (by omega) (.inr (.inr rfl))).trans hl2
      have hk3 := (h3.block _ (by omega) (.inr (.inl rfl))).trans hk2
      have z3 := h3.size
      have := run_endRound (P := P) jump hl3
      rw [hrec] at this ⊢
      exact ⟨this, by simp; omega, World.putObj_heap_same (by omega), (World.putObj_heap_other (by omega)).trans hk3⟩
    rintro e a3 W3 hp
    cases e with
    | normal =>
      obtain ⟨h3, hi3⟩ := hp
      obtain ⟨hr, hz4, hl4, hk4⟩ := fin none W3 h3
      refine ⟨_, _, hr, .inl ⟨rfl, ⟨hI _ _ _ hi3 ((Same.refl _ _).putObj (by simp) _), hz4, hl4, hk4⟩, ?_⟩⟩
      have hn1 : ¬ Nd (D + 1) := fun h => by have := hNd _ h; omega
      exact ((s2 Nd hn1).trans (h3.mono fun _ _ h => .inl h)).putObj hn1 _
    | ret =>
      obtain ⟨h3, hi3⟩ := hp
      obtain ⟨hr, hz4, hl4, hk4⟩ := fin (some .ret) W3 h3
      exact ⟨_, _, hr, .inr ⟨rfl, .ret, hIx _ _ _ _ hi3 ((Same.refl _ _).putObj (by simp) _), hz4, hl4, hk4⟩⟩
    | exit id =>
      obtain ⟨h3, hi3⟩ := hp
      obtain ⟨hr, hz4, hl4, hk4⟩ := fin (some (.exit id)) W3 h3
      exact ⟨_, _, hr, .inr ⟨rfl, .exit id, hIx _ _ _ _ hi3 ((Same.refl _ _).putObj (by simp) _), hz4, hl4, hk4⟩⟩
    | goto t =>
      obtain ⟨h3, hi3⟩ := hp
      obtain ⟨hr, hz4, hl4, hk4⟩ := fin (some (.goto t)) W3 h3
      exact ⟨_, _, hr, .inr ⟨rfl, .goto t, hIx _ _ _ _ hi3 ((Same.refl _ _).putObj (by simp) _), hz4, hl4, hk4⟩⟩
    | panic ch => exact hp.elim
    | outgrown => exact hp.elim
  · exact ⟨hI 0 w W1 h0 (s1 _), by omega, hL1, hK1⟩
  · -- behind the iterator
    rintro e W2 ⟨⟨v, rfl⟩, (⟨hi, hz, hl, hk⟩ | ⟨k, hkl, c, hi, hz, hl, hk⟩)⟩
    · refine ⟨none, W2.putObj (D + 1) (.loop { rec .ready none with state := .exhausted }), ?_, ?_⟩
      · have := run_endLoop (P := P) hl (by rw [hrec]; simp); rw [hrec] at this ⊢; exact this
      · exact hdone _ (hI _ _ _ hi ((Same.refl _ _).putObj (by simp) _)) ((World.putObj_heap_other (by omega)).trans hk) (by simp; omega)
    · refine ⟨some c, W2.putObj (D + 1) (.loop { rec .done (some c) with state := .exhausted }), ?_, ?_⟩
      · have := run_endLoop (P := P) hl (by rw [hrec]; simp); rw [hrec] at this ⊢; exact this
      · exact wpIn_wide.2 (hstop c k _ (hIx _ _ _ _ hi ((Same.refl _ _).putObj (by simp) _)) hkl ((World.putObj_heap_other (by omega)).trans hk) (by simp; omega))

/-! ### operations of a round, walked as anywhere -/
section
variable {P : Program} {n : Nat} {r : Option Nat}
/-- a fence that lets everything pass, in a round or in none -/
abbrev Wide (r : Option Nat) : Fence := { Fence.wide with round := r }
theorem calls_wide {f : FuncId} {args : Array Value} {w : World} {R : Ending → World → Prop} (h : Calls P f args w R) : CallsIn (Wide r) n P f args w R := callsIn_wide.2 h
/-- no defer statement -/
def noDefer (o : Oper) : Bool := match o.op with | .defer _ => false | _ => true

theorem rows_wide {row : String} {args : Array Value} {w : World} {R : Value → World → Prop} (h : Rows P row args w R) : RowsIn (Wide r) n P row args w R := fun c cs _ =>
  let ⟨v, w', hR, hs⟩ := h c cs
  ⟨v, w', hR, stepsIn_wide.2 hs⟩

theorem upon_in {o : Oper} {a : Act} {K : Act → World → Prop} {Q Q' : Exit → Act → World → Prop} (hp : ∀ ch a w, ¬ Q (.panic ch) a w) (ho : ¬ LetsOut Q) (x : Result Next) (h : o.upon P a K Q x) : o.uponIn (Wide r) n P a K Q' x := by
  cases x with
  | ok v w' =>
    cases v
    case value v => exact h
    case skip => exact h
    case defer d => exact h
    case enter f args =>
      refine ⟨(fun e => by cases e), ?_⟩
      have h : Calls P f args w' _ := h
      refine CallsIn.mono (calls_wide (r := r) (n := n - 1) h) fun e w'' he => ?_
      cases e with
      | returned v => exact he
      | panicked ch => exact (hp _ _ _ he).elim
      | outgrown => exact (ho he).elim
    case row row args => exact ⟨(fun e => by cases e), rows_wide h⟩
    all_goals exact h.elim
  | halt x w' =>
    cases x <;> simp only [Oper.upon, Oper.uponIn] at h ⊢
    all_goals first | exact h.elim | exact (hp _ _ _ h).elim

theorem op_in {o : Oper} {a : Act} {w : World} {K : Act → World → Prop} {Q Q' : Exit → Act → World → Prop} (hd : noDefer o = true) (hp : ∀ ch a w, ¬ Q (.panic ch) a w) (ho : ¬ LetsOut Q) (h : o.wp P a w K Q) : o.wpIn (Wide r) n P a w K Q' :=
  ⟨fun _ _ => trivial, by
    rw [Oper.semAt_eq _ _ _ (fun c e => by rw [noDefer, e] at hd; cases hd)]
    exact upon_in hp ho _ h⟩

/-- THE FIRST OPERATIONS OF A REGION, WALKED OUTSIDE OF THE FENCE -/
theorem list_in {ops : Array Oper} {Q : Exit → Act → World → Prop} {l2 : List Oper} : ∀ (l1 : List Oper), l1.all noDefer = true → ∀ a w,
    wpList P ops (fun e a' w' => e = .normal ∧ wpListIn (Wide r) n P ops Q l2 a' w') l1 a w → wpListIn (Wide r) n P ops Q (l1 ++ l2) a w
  | [], _, a, w, h => h.2
  | o :: l1, hd, a, w, h => by
    simp only [List.all_cons, Bool.and_eq_true] at hd
    have ho : ¬ LetsOut (fun e a' w' => e = Exit.normal ∧ wpListIn (Wide r) n P ops Q l2 a' w') := fun ⟨_, _, e, _⟩ => by cases e
    rw [wpList] at h
    rw [List.cons_append, wpListIn]
    by_cases hw : Region.wanted o (yielded ops a.tmps) = true
    · rw [if_pos hw] at h ⊢
      refine op_in hd.1 (fun ch a w hq => by cases hq.1) ho ?_
      rcases h with h | ⟨_, h⟩
      · exact Oper.wp_mono (fun a' w' => list_in l1 hd.2 a' w') h
      · exact (ho h).elim
    · rw [if_neg hw] at h ⊢
      exact ⟨fun _ _ => trivial, list_in l1 hd.2 _ _ h⟩
/-- A WHOLE REGION -/
theorem region_in {id : Nat} {l : List Oper} {Q : Exit → Act → World → Prop} {a : Act} {w : World} (hd : l.all noDefer = true) (h : wpList P l.toArray (fun e a' w' => e = .normal ∧ Q .normal a' w') l a w) : (Code.region id l.toArray false).wpIn (Wide r) n P Q a w := by
  refine wpIn_region_lit ?_
  have := list_in (P := P) (r := r) (n := n) (ops := l.toArray) (Q := Q) (l2 := []) l hd a w h
  rwa [List.append_nil] at this
end

/-! ### a function whose body holds such statements: its end -/
theorem calls_of_marks {P : Program} {f : FuncId} {fn : Func} {c : Code} {args : Array Value} {w : World} {R : Ending → World → Prop} (hf : P.funcs[f]? = some fn) (hb : fn.body = some c)
    (h : c.wp P (bodyPostM Fence.wide 8 P fn R) { tmps := args ++ Array.replicate (fn.ntmps - args.size) undef, defers := [] } w) : Calls P f args w R :=
  callsIn_wide.1 (callsIn_of_wp_marks (n := 8) hf hb trivial (wpIn_wide.2 h) rfl)
theorem marks_take {F : Fence} {n : Nat} {P : Program} {fn : Func} {R : Ending → World → Prop} {tmps : Array Value} {ds : List Deferred} {D : Nat} {args : Array Value} {w : World} (hK : w.heap[D]? = some (.deferred (some [])))
    (h : bodyPostM F n P fn R .ret { tmps, defers := ds } (w.putObj D (.deferred none))) : bodyPostM F n P fn R .ret { tmps, defers := { target := .collected D, args } :: ds } w :=
  ⟨by simp, .inl ⟨_, _, rfl, run_takeDeferred hK, h⟩⟩
theorem marks_end {F : Fence} {n : Nat} {P : Program} {fn : Func} {R : Ending → World → Prop} {tmps : Array Value} {w : World} {v : Value} (hr : (results fn tmps).run P w = .ok v w) (h : R (.returned v) w) :
    bodyPostM F n P fn R .ret { tmps, defers := [] } w := ⟨_, hr, h⟩

/-! ### a region that draws its order, in a round -/
section
variable {P : Program} {n : Nat} {r : Option Nat}
theorem any_in {md : Region.Mode} {ops : Array Oper} {Q : Exit → Act → World → Prop} (hd : ops.toList.all noDefer = true) : ∀ (fuel : Nat) (listed : Array Bool) (a : Act) (w : World),
    wpAny P md ops (fun e a' w' => e = Exit.normal ∧ Q .normal a' w') fuel listed a w → wpAnyIn (Wide r) n P md ops Q fuel listed a w
  | 0, _, _, _, h => ⟨h.1, h.2.2⟩
  | fuel + 1, listed, a, w, h => by
    refine ⟨fun e => (h.1 e).2, fun i hi => ?_⟩
    have h2 := h.2 i hi
    unfold wpOp at h2
    unfold wpOpIn
    cases ho : ops[i]? with
    | none => rw [ho] at h2; exact any_in hd fuel _ _ _ h2
    | some o =>
      rw [ho] at h2
      have hdo : noDefer o = true := List.all_eq_true.1 hd o (List.mem_of_getElem? (by simpa using ho))
      have hlo : ¬ LetsOut (fun e a' w' => e = Exit.normal ∧ Q .normal a' w') := fun ⟨_, _, e, _⟩ => by cases e
      dsimp only at h2 ⊢
      by_cases hw : Region.wanted o (yielded ops a.tmps) = true
      · rw [if_pos hw] at h2 ⊢
        refine op_in hdo (fun ch a w hq => by cases hq.1) hlo ?_
        rcases h2 with h2 | ⟨_, h2⟩
        · exact Oper.wp_mono (fun a' w' => any_in hd fuel _ a' w') h2
        · exact (hlo h2).elim
      · rw [if_neg hw] at h2 ⊢
        exact ⟨fun _ _ => trivial, any_in hd fuel _ _ _ h2⟩
theorem wp_seq_in {id : Nat} {ops : Array Oper} {Q : Exit → Act → World → Prop} {a0 : Act} {I : World → Prop} {Gr : World → World → Prop} {w : World} (hm : P.follows .mixedOrders = true) (hd : ops.toList.all noDefer = true) (hw : Free.wellB ops a0.tmps.size = true) (hI : I w.drew)
    (h : Free.Seq P ops (fun e a' w' => e = Exit.normal ∧ Q .normal a' w') a0 I Gr ops.toList []) : (Code.region id ops true).wpIn (Wide r) n P Q a0 w := by
  obtain ⟨Us, h1, h2, h3, h4⟩ := Free.From.collect ops.toList 0 [] rfl h
  refine wpIn_region_any hm (any_in hd _ _ _ _ (Free.any_of_inv (Ts := Us) hw (by simpa using h1) h2 (fun k o T ho hT => by simpa using h3 k o T (by simpa using ho) hT) (by simpa using h4) _ _ _ _ ?_ ?_))
  · have : ∀ n l, Free.cnt l n ≤ n := by
      intro n
      induction n with
      | zero => intro l; simp [Free.cnt]
      | succ n ih => intro l; have := ih l; simp only [Free.cnt]; split <;> omega
    exact this _ _
  · refine ⟨by simp, hI, rfl, rfl, fun j o T ho _ hl => ?_, fun _ _ => rfl, fun j o ho hl => ?_⟩
    all_goals
      have hj : j < ops.size := (Array.getElem?_eq_some_iff.1 ho).1
      rw [Array.getD_eq_getD_getElem?] at hl
      simp [hj] at hl
end

/-! ### the statement whose loop variable is a slot, left (if at all) by a break -/
section
variable {P : Program}
theorem assign_in {n : Nat} {r : Option Nat} {id p d : Nat} {ty : TypeId} {pos : String} {K : Act → World → Prop} {Q : Exit → Act → World → Prop} {T : Array Value} {v : Value} {W : World} (hp : p < T.size)
    (h : K { tmps := (T.setIfInBounds p v).setIfInBounds d v, defers := [] } W) :
    (Code.region id #[{ dst := some d, op := .assign (.tmp p), type := ty, pos, after := #[], guard := none }] false).wpIn (Wide r) n P (Exit.then K Q) { tmps := T.setIfInBounds p v, defers := [] } W := by
  refine region_in rfl ?_
  have e : (T.setIfInBounds p v).getD p undef = v := by simp [hp]
  have e2 : (Act.mk (T.setIfInBounds p v) []).eval (.tmp p) = v := by simpa [Act.eval] using e
  rw [wpList, if_pos (by simp [Region.wanted])]
  left
  unfold Oper.wp execOp
  simp [e2, Oper.upon, wpList, Act.put, Exit.then, Sem.run_pure, h]
theorem wp_rangeB {g : Operand} {id rid p d : Nat} {ty : TypeId} {pos : String} {body : Code} {Q : Exit → Act → World → Prop} {T : Array Value} {ds : List Deferred} {w : World}
    {gf : Nat} {lb : Array Value} (hg : (Act.mk T ds).eval g = .func (.func gf) #[] lb) (eg : ∀ args w, (callFunc gf args).run P w = .ok (.enter gf args) w)
    {St Nd : Nat → Prop} {xs : List (List UInt8)} (hseq : SeqOf P gf lb St Nd xs w) (hp : p < T.size) (hSt : ∀ k, w.heap.size ≤ k → St k) (hNd : ∀ k, Nd k → k < w.heap.size)
    (I Ib : Nat → World → Prop)
    (hI : ∀ k A B, I k A → Same (fun j => St j ∧ j ≠ w.heap.size ∧ j ≠ w.heap.size + 1) A B → I k B)
    (hIb : ∀ k A B, Ib k A → Same (fun j => j ≠ w.heap.size + 1) A B → Ib k B) (h0 : I 0 w) (n : Nat)
    (hbody : ∀ (l k : Nat) (q : List UInt8) (A : Option Addr) (c : Nat) (W : World), I k W → w.heap.size + 2 ≤ W.heap.size → xs[k]? = some q → Sl W (w.heap.size + 2) 5 (.slice A q.length c) q.length (bs q) →
      (∃ W0, I k W0 ∧ w.heap.size + 2 ≤ W0.heap.size ∧ Same (fun j => j ≠ w.heap.size + 1) W0 W ∧ Sl W W0.heap.size 5 (.slice A q.length c) q.length (bs q)) →
      body.wpIn (Wide (some l)) n P (rndPost (fun j => Nd j ∨ j = w.heap.size ∨ j = w.heap.size + 1) I (fun c k W => c = .exit id ∧ Ib k W) (k + 1) W)
        { tmps := (T.setIfInBounds p (.slice A q.length c)).setIfInBounds d (.slice A q.length c), defers := [] } W)
    (hend : ∀ W, (I xs.length W ∨ ∃ k, k ≤ xs.length ∧ Ib k W) → W.heap[w.heap.size]? = some (.deferred (some [])) → w.heap.size + 2 ≤ W.heap.size →
      Q .normal { tmps := T, defers := { target := .collected w.heap.size, args := #[] } :: ds } W) :
    (Code.rangeFunc g #[p] (Code.region rid #[{ dst := some d, op := .assign (.tmp p), type := ty, pos, after := #[], guard := none }] false) body).wp P (Exit.inBlock id Q) { tmps := T, defers := ds } w := by
  refine wp_rangeSeq hg eg hseq rfl hSt hNd I (fun c k W => c = .exit id ∧ Ib k W) hI (fun c k A B h hs => ⟨h.1, hIb k A B h.2 hs⟩) h0
    (fun v => { tmps := (T.setIfInBounds p v).setIfInBounds d v, defers := [] }) n (fun l v W K hK => ?_) hbody (fun W h1 h2 h3 => hend W (.inl h1) h2 h3) (fun c k W h1 h2 h3 h4 => ?_)
  · have e : (Array.zip #[p] #[v]).foldl (fun t (p, v) => t.setIfInBounds p v) T = T.setIfInBounds p v := by simp
    show Code.wpIn (Wide (some l)) n P _ _ { tmps := (Array.zip #[p] #[v]).foldl (fun t (p, v) => t.setIfInBounds p v) T, defers := [] } W
    rw [e]
    exact assign_in hp hK
  · obtain ⟨rfl, h1⟩ := h1
    refine wp_exit ?_
    simp only [Exit.inBlock, if_true]
    exact hend W (.inr ⟨k, h2, h1⟩) h3 h4
end

/-! ### append in a round -/
theorem wpListIn_app {P : Program} {r : Option Nat} {nf : Nat} (w : World) {ops : Array Oper} {rest : List Oper} {o : Oper} {a : Act} {Q : Exit → Act → World → Prop} (hgd : o.guard = none) {t e : TypeId} {z : Value} {size bytes : Nat} (hE : ElemOf P t e z size bytes) (s x : Operand)
    (ho : o.op = .call { callee := .builtin .append, args := #[s, x], argTypes := #[t, t] })
    {base : Nat} {v : Value} {n : Nat} {xs : List Value} (hv : a.eval s = v) (hown : w.ownsRow base e size v n xs)
    {A : Option Addr} {m c : Nat} {news : List Value} (hx : a.eval x = .slice A m c) (hs : Src w A m size news) (N : Nat) (hN : n + m = N) (hb : N * bytes ≤ 140737488355328) (hbase : base ≤ w.heap.size)
    (h : AppK w base e size v N (xs ++ news) fun v' w' => wpListIn (Wide r) nf P ops Q rest (a.put o.dst v') w') : wpListIn (Wide r) nf P ops Q (o :: rest) a w := by
  rw [wpListIn, if_pos (by simp [Region.wanted, hgd])]
  exact op_in (Q := fun _ _ _ => False) (by rw [noDefer, ho]) (fun _ _ _ h => h) (fun ⟨_, _, h⟩ => h) (wp_app w hE s x ho hv hown hx hs N hN hb hbase h)
end Go.Proofs.Ytiffbmnenbnglaa
