/-
  THE WALKS OF THE DOCUMENT'S LINE, MORE: Drop, Insert, Flip, Take.
-/
import Derived.Test.YtgiboekjjnmnnaaWayWalk
import Derived.Test.YtgiboekjjnmnnaaFlagB
import Derived.Test.YtgiboekjjnmnnaaCopy
namespace Go.Proofs.Ytgiboekjjnmnnaa
open Go.RowKit

/-- what holds on the way through a region that appends onto an own row and stores into the result's cell; ca: has the append come up? -/
structure RI (w : World) (dl : Int) (sl : Value) (ca : Bool) (v : Value) (n1 : Nat) (xs1 : List Value) (w' : World) : Prop where
  own : cond ca True (w'.ownsRow (w.heap.size + 2) 61 2 v n1 xs1)
  low : Below (w.heap.size + 1) (w.alloc (lbox dl sl)) w'
  res : ∃ x y, w'.heap[w.heap.size + 1]? = some (.cells #[x, y] 38 (0, 0))
theorem cond_keep {ca : Bool} {P Q : Prop} (h : cond ca True P) (f : P → Q) : cond ca True Q := by
  cases ca
  · exact f h
  · trivial
section
variable {w : World} {dl : Int} {sl : Value} {ca : Bool} {v : Value} {n1 : Nat} {xs1 : List Value} {w' : World}
theorem RI.c0 (h : RI w dl sl ca v n1 xs1 w') : w'.cell? ⟨w.heap.size, 0, none⟩ = some (.int .i64 dl) := (h.low.cell (p := ⟨w.heap.size, 0, none⟩) (by simp)).trans (by rw [World.cell?_alloc_mark]; rfl)
theorem RI.c1 (h : RI w dl sl ca v n1 xs1 w') : w'.cell? ⟨w.heap.size, 1, none⟩ = some sl := (h.low.cell (p := ⟨w.heap.size, 1, none⟩) (by simp)).trans (by rw [World.cell?_alloc_mark]; rfl)
theorem RI.lt (h : RI w dl sl ca v n1 xs1 w') : w.heap.size + 2 ≤ w'.heap.size := by obtain ⟨x, y, hr⟩ := h.res; exact (Array.getElem?_eq_some_iff.1 hr).1
theorem RI.stays (h : RI w dl sl ca v n1 xs1 w') : Stays w w' := (Stays.alloc w (lbox dl sl)).trans (.below (h.low.mono (by simp)))
theorem RI.bel (h : RI w dl sl ca v n1 xs1 w') : Below w.heap.size w w' := ((Below.refl w.heap.size w).alloc (Nat.le_refl _) (lbox dl sl)).trans (h.low.mono (by omega))
theorem RI.grown (h : RI w dl sl ca v n1 xs1 w') {w2 : World} {row : Option Nat} (hg : w'.grownBy w2 row) (hr : ∀ k, row = some k → w.heap.size + 2 ≤ k) {cb : Bool} {v2 : Value} {n2 : Nat} {xs2 : List Value} (ho : cond cb True (w2.ownsRow (w.heap.size + 2) 61 2 v2 n2 xs2)) : RI w dl sl cb v2 n2 xs2 w2 := by
  have := h.lt
  refine ⟨ho, h.low.grown hg (by omega) fun k hk => by have := hr k hk; omega, ?_⟩
  obtain ⟨x, y, hr'⟩ := h.res
  exact ⟨x, y, (hg.block _ (by omega) (by intro e; have := hr _ e.symm; omega)).trans hr'⟩
theorem RI.alloc (h : RI w dl sl ca v n1 xs1 w') (o : Obj) : RI w dl sl ca v n1 xs1 (w'.alloc o) :=
  h.grown (row := none) (show w'.grownBy (w'.alloc o) none from ⟨rfl, rfl, rfl, by simp, fun k hk _ => Below.heap_alloc _ _ _ hk⟩) (by simp) (cond_keep h.own fun x => x.alloc o)
theorem RI.begin {w w1 : World} {dl : Int} {sl : Value} {e : TypeId} {row : Option Nat} {v : Value} {n1 : Nat} {xs1 : List Value} (hg : (((w.alloc (lbox dl sl)).alloc lres).alloc (.cells #[] e)).grownBy w1 row) (hr : ∀ k, row = some k → k = w.heap.size + 2) (ho : w1.ownsRow (w.heap.size + 2) 61 2 v n1 xs1) : RI w dl sl false v n1 xs1 w1 := by
  have hb1 : Below (w.heap.size + 2) ((w.alloc (lbox dl sl)).alloc lres) w1 := ((Below.refl _ _).alloc (by simp) _).grown hg (by simp) (by intro k hk; have := hr k hk; omega)
  exact ⟨ho, ((Below.refl _ _).alloc (by simp) _).trans (hb1.mono (by omega)), _, _, (hb1.block (w.heap.size + 1) (by omega)).trans (by rw [show w.heap.size + 1 = (w.alloc (lbox dl sl)).heap.size by simp]; exact heap_alloc_new _ _)⟩
theorem RI.drew (h : RI w dl sl ca v n1 xs1 w') : RI w dl sl ca v n1 xs1 w'.drew := h.grown (row := none) (show w'.grownBy w'.drew none from ⟨rfl, rfl, rfl, Nat.le_refl _, fun _ _ _ => rfl⟩) (by simp) (cond_keep h.own fun o => o)
theorem RI.stored (h : RI w dl sl ca v n1 xs1 w') (x y : Value) : RI w dl sl ca v n1 xs1 ((w'.setCell ⟨w.heap.size + 1, 0, none⟩ x).setCell ⟨w.heap.size + 1, 1, none⟩ y) ∧
    ((w'.setCell ⟨w.heap.size + 1, 0, none⟩ x).setCell ⟨w.heap.size + 1, 1, none⟩ y).heap[w.heap.size + 1]? = some (.cells #[x, y] 38 (0, 0)) := by
  obtain ⟨x0, y0, hr⟩ := h.res
  have hr2 : ((w'.setCell ⟨w.heap.size + 1, 0, none⟩ x).setCell ⟨w.heap.size + 1, 1, none⟩ y).heap[w.heap.size + 1]? = some (.cells #[x, y] 38 (0, 0)) := heap_setCell_same _ _ 1 _ _ _ (heap_setCell_same _ _ 0 _ _ _ hr)
  refine ⟨⟨?_, (h.low.setCell (p := ⟨w.heap.size + 1, 0, none⟩) (Nat.le_refl _) _).setCell (p := ⟨w.heap.size + 1, 1, none⟩) (Nat.le_refl _) _, x, y, hr2⟩, hr2⟩
  exact cond_keep h.own fun o => ownsRow_setCell_below (ownsRow_setCell_below o (by simp) _) (by simp) _
end

/-- an own row, what is built of it, what is stored -/
def TA (w : World) (N : Nat) (ys : List Value) : Free.Fact := fun v w' => ∃ A' c', v = .slice A' N c' ∧ w'.ownsRow (w.heap.size + 2) 61 2 (.slice A' N c') N ys
def TB (w : World) (dl : Int) (N : Nat) (ys : List Value) : Free.Fact := fun v w' => ∃ A' c', v = .agg #[.int .i64 dl, .slice A' N c'] ∧ w'.ownsRow (w.heap.size + 2) 61 2 (.slice A' N c') N ys
def TS (w : World) (dl : Int) (N : Nat) (ys : List Value) : World → Prop := fun w' => ∃ A' c', w'.heap[w.heap.size + 1]? = some (.cells #[.int .i64 dl, .slice A' N c'] 38 (0, 0)) ∧ w'.ownsRow (w.heap.size + 2) 61 2 (.slice A' N c') N ys
/-- how a store into the result's cell turns the memory -/
def SR (w : World) (x y : World) : Prop := y = x ∨ ∃ p q, y = (x.setCell ⟨w.heap.size + 1, 0, none⟩ p).setCell ⟨w.heap.size + 1, 1, none⟩ q
theorem row_sr {w x y : World} {v : Value} {N : Nat} {ys : List Value} (h : x.ownsRow (w.heap.size + 2) 61 2 v N ys) (hs : SR w x y) : y.ownsRow (w.heap.size + 2) 61 2 v N ys := by
  rcases hs with rfl | ⟨p, q, rfl⟩
  · exact h
  · exact ownsRow_setCell_below (ownsRow_setCell_below h (by simp) _) (by simp) _
theorem TA.mono {w : World} {N : Nat} {ys : List Value} {v : Value} {x y : World} (h : TA w N ys v x) (hs : SR w x y) : TA w N ys v y := by
  obtain ⟨A', c', rfl, ho⟩ := h
  exact ⟨A', c', rfl, row_sr ho hs⟩
theorem TB.mono {w : World} {dl : Int} {N : Nat} {ys : List Value} {v : Value} {x y : World} (h : TB w dl N ys v x) (hs : SR w x y) : TB w dl N ys v y := by
  obtain ⟨A', c', rfl, ho⟩ := h
  exact ⟨A', c', rfl, row_sr ho hs⟩

set_option maxHeartbeats 2000000 in
theorem rdrop_range (w : World) (dl : Int) (A : Option Addr) (n c : Nat) (hn : n ≤ 65536) (at_ m : Int) (ha : at_ < 0 ∨ m < 0 ∨ (n : Int) < at_ ∨ (n : Int) - at_ < m) :
    Calls Try.prog 23 #[.agg #[.int .i64 dl, .slice A n c], .int .i64 at_, .int .i64 m] w fun e w' => e = .returned (.tuple #[.agg #[.int .i64 dl, .slice A n c], .int .i64 1]) ∧ Below w.heap.size w w' := by
  by_cases h0 : at_ < 0
  · have t1 : decide (at_ < 0) = true := by simp; omega
    clear ha
    go_enter Try.func23, Try.ntmps23
    go_wp2
    go_returns
    exact ⟨rfl, ((Below.refl w.heap.size w).alloc (Nat.le_refl _) _).alloc (by simp) _⟩
  have t1 : decide (at_ < 0) = false := by simp; omega
  by_cases h2 : m < 0
  · have t2 : decide (m < 0) = true := by simp; omega
    clear ha
    go_enter Try.func23, Try.ntmps23
    go_wp2
    go_returns
    exact ⟨rfl, ((Below.refl w.heap.size w).alloc (Nat.le_refl _) _).alloc (by simp) _⟩
  have t2 : decide (m < 0) = false := by simp; omega
  by_cases h3 : (n : Int) < at_
  · have t3 : decide ((n : Int) < at_) = true := by simp; omega
    clear ha
    go_enter Try.func23, Try.ntmps23
    go_wp2
    go_returns
    exact ⟨rfl, ((Below.refl w.heap.size w).alloc (Nat.le_refl _) _).alloc (by simp) _⟩
  have t3 : decide ((n : Int) < at_) = false := by simp; omega
  have t4 : decide ((n : Int) - at_ < m) = true := by simp; omega
  clear ha
  go_enter Try.func23, Try.ntmps23
  go_wp2
  go_returns
  exact ⟨rfl, ((Below.refl w.heap.size w).alloc (Nat.le_refl _) _).alloc (by simp) _⟩

set_option maxHeartbeats 2000000 in
theorem rdrop_any (w : World) (dl : Int) (A : Option Addr) (n c : Nat) (ws : List (UInt8 × Int)) (h : RdC w A n c 2 (wcs ws)) (hl : ws.length = n) (hn : n ≤ 65536) (k m : Nat) (hkm : k + m ≤ n) :
    Calls Try.prog 23 #[.agg #[.int .i64 dl, .slice A n c], .int .i64 k, .int .i64 m] w fun e w' => ∃ A2 c2, e = .returned (.tuple #[.agg #[.int .i64 dl, .slice A2 (n - m) c2], .int .i64 0]) ∧ w'.ownsRow w.heap.size 61 2 (.slice A2 (n - m) c2) (n - m) (wcs (ws.take k ++ ws.drop (k + m))) ∧ Below w.heap.size w w' := by
  have t3 : decide ((n : Int) < (k : Int)) = false := by simp; omega
  have t4 : decide ((n : Int) - (k : Int) < (m : Int)) = false := by simp; omega
  have hcap := h.cap
  have HL := Lib.hid hl
  have HR := Lib.hid h
  have HS := Lib.hid ((((h.take (k := k) (by omega)).stays (.alloc w (lbox dl (.slice A n c)))).stays (.alloc _ lres)).stays (.alloc _ (.cells #[] 61)) |>.src (fun u hu => wcs_one ws u (List.mem_of_mem_take hu)))
  have HD := Lib.hid (h.drop (k := k + m) (by omega))
  have b1 : k ≤ n := by omega
  have b2 : (k : Int) + (m : Int) ≤ (n : Int) := by omega
  have b3 : (0 : Int) ≤ (k : Int) + (m : Int) := by omega
  have e1 : ((k : Int) + (m : Int)).toNat = k + m := by omega
  have hw2 : IntKind.i64.wrap ((k : Int) + (m : Int)) = (k : Int) + (m : Int) := IntWalk.i64_in _ ⟨by omega, by omega⟩
  have hN : Hid (k + (n - (k + m)) = n - m) := by show _ = _; omega
  clear h hl
  go_enter Try.func23, Try.ntmps23
  go_wp2_with ((with_reducible show wpList _ _ _ (⟨some 37, _, _, _, _, _⟩ :: _) _ _); refine wpList_app _ rfl elemW (.tmp 32) (.tmp 36) rfl rfl (own_empty _ (w.heap.size + 2) _ _ 2 (by simp) (by simp)) rfl HS.out k (by omega) (by omega) (by simp) ?_; intro A1 c1 w1 hown1 hg1 hat1)
  have HI := Lib.hid (show RI w dl (.slice A n c) false (.slice A1 k c1) k (wcs (ws.take k)) w1 from by
    have hb1 : Below (w.heap.size + 2) ((w.alloc (lbox dl (.slice A n c))).alloc lres) w1 := ((Below.refl _ _).alloc (by simp) _).grown hg1 (by simp) (by intro k hk; simp [Value.ownBlock, Act.eval] at hk; omega)
    refine ⟨by rw [wcs_take]; simpa using hown1, ((Below.refl _ _).alloc (by simp) _).trans (hb1.mono (by omega)), _, _, (hb1.block (w.heap.size + 1) (by omega)).trans (by rw [show w.heap.size + 1 = (w.alloc (lbox dl (.slice A n c))).heap.size by simp]; exact heap_alloc_new _ _)⟩)
  clear hown1 hg1 hat1
  go_wp2_with fail
  refine Free.wp_seq3 (I := fun L w' => RI w dl (.slice A n c) (L 9) (.slice A1 k c1) k (wcs (ws.take k)) w') (Gr := fun j x y => j = 9 ∨ (y = x ∨ (j = 11 ∧ ∃ p q, y = (x.setCell ⟨w.heap.size + 1, 0, none⟩ p).setCell ⟨w.heap.size + 1, 1, none⟩ q))) (by kernel_rfl) (by kernel_rfl) HI.out.drew ?_
  refine Free.Seq3.val ?_ (fun _ => .inr (.inl rfl)) (fun _ _ h => h) (fun a w1 L hI hp => ?_) ?_
  rotate_left
  · have e3 := hp.slotV 3 (by kernel_rfl) rfl; simp at e3
    refine ⟨Free.want_none rfl, ?_⟩
    clear hp
    go_simp
    rfl
  refine Free.Seq3.val ?_ (fun _ => .inr (.inl rfl)) (fun _ _ h => h) (fun a w1 L hI hp => ?_) ?_
  rotate_left
  · have e38 := hp.backV 0 0 rfl rfl rfl rfl rfl
    have k0 := hI.c0
    refine ⟨Free.want_none rfl, ?_⟩
    clear hp
    go_simp
    rfl
  refine Free.Seq3.val ?_ (fun _ => .inr (.inl rfl)) (fun _ _ h => h) (fun a w1 L hI hp => ?_) ?_
  rotate_left
  · have e8 := hp.slotV 8 (by kernel_rfl) rfl; simp at e8
    refine ⟨Free.want_none rfl, ?_⟩
    clear hp
    go_simp
    rfl
  refine Free.Seq3.val ?_ (fun _ => .inr (.inl rfl)) (fun _ _ h => h) (fun a w1 L hI hp => ?_) ?_
  rotate_left
  · have e3 := hp.slotV 3 (by kernel_rfl) rfl; simp at e3
    refine ⟨Free.want_none rfl, ?_⟩
    clear hp
    go_simp
    rfl
  refine Free.Seq3.val ?_ (fun _ => .inr (.inl rfl)) (fun _ _ h => h) (fun a w1 L hI hp => ?_) ?_
  rotate_left
  · have e41 := hp.backV 3 0 rfl rfl rfl rfl rfl
    have k1 := hI.c1
    refine ⟨Free.want_none rfl, ?_⟩
    clear hp
    go_simp
    rfl
  refine Free.Seq3.val ?_ (fun _ => .inr (.inl rfl)) (fun _ _ h => h) (fun a w1 L hI hp => ?_) ?_
  rotate_left
  · have e1 := hp.slotV 1 (by kernel_rfl) rfl; simp at e1
    refine ⟨Free.want_none rfl, ?_⟩
    clear hp
    go_simp
    rfl
  refine Free.Seq3.val ?_ (fun _ => .inr (.inl rfl)) (fun _ _ h => h) (fun a w1 L hI hp => ?_) ?_
  rotate_left
  · have e2 := hp.slotV 2 (by kernel_rfl) rfl; simp at e2
    refine ⟨Free.want_none rfl, ?_⟩
    clear hp
    go_simp
    rfl
  refine Free.Seq3.val ?_ (fun _ => .inr (.inl rfl)) (fun _ _ h => h) (fun a w1 L hI hp => ?_) ?_
  rotate_left
  · have e43 := hp.backV 5 1 rfl rfl rfl rfl rfl; have e44 := hp.backV 6 0 rfl rfl rfl rfl rfl
    refine ⟨Free.want_none rfl, ?_⟩
    clear hp
    go_simp
    rfl
  refine Free.Seq3.val ?_ (fun _ => .inr (.inl rfl)) (fun _ _ h => h) (fun a w1 L hI hp => ?_) ?_
  rotate_left
  · have e42 := hp.backV 4 3 rfl rfl rfl rfl rfl; have e45 := hp.backV 7 0 rfl rfl rfl rfl rfl
    refine ⟨Free.want_none rfl, ?_⟩
    clear hp
    go_simp
    rfl
  refine Free.Seq3.op (T := TA w (n - m) (wcs (ws.take k ++ ws.drop (k + m)))) (fun j hj hr v x y h hs => hs.elim (fun e => absurd e hj) (fun hs => h.mono (hs.imp id (fun h => h.2)))) (fun a w1 L hI hp => ?_) ?_
  · have e40 := hp.backV 2 6 rfl rfl rfl rfl rfl; have e46 := hp.backV 8 0 rfl rfl rfl rfl rfl
    have hfr : L 9 = false := hp.fresh
    have hown : w1.ownsRow (w.heap.size + 2) 61 2 (.slice A1 k c1) k (wcs (ws.take k)) := by have h := hI.own; rw [hfr] at h; exact h
    obtain ⟨A9, c9, w9, hrun, h9, hg9, _⟩ := run_app w1 elemW _ hown (c - (k + m)) ((HD.out.stays hI.stays).src (fun u hu => wcs_one ws u (List.mem_of_mem_drop hu))) (N := n - m) hN.out (by omega) hI.lt
    refine ⟨Free.want_none rfl, .slice A9 (n - m) c9, w9, ?_, ⟨A9, c9, rfl, ?_⟩, .inl rfl, hI.grown hg9 (fun k hk => (hown.lt k hk).1) (by trivial)⟩
    · exact Free.exec_app (.tmp 40) (.tmp 46) rfl (Free.eval_tmp e40) (Free.eval_tmp e46) hrun
    · rw [wcs_append, wcs_drop]; exact h9
  refine Free.Seq3.op (T := TB w dl (n - m) (wcs (ws.take k ++ ws.drop (k + m)))) (fun j hj hr v x y h hs => hs.elim (fun e => by have h1 := hr 40; subst e; exact (Bool.false_ne_true (h1.symm.trans (by kernel_rfl))).elim) (fun hs => h.mono (hs.imp id (fun h => h.2)))) (fun a w1 L hI hp => ?_) ?_
  · have e39 := hp.backV 1 8 rfl rfl rfl rfl rfl
    obtain ⟨A9, c9, e47, h9⟩ := hp.back 9 0 rfl rfl rfl rfl rfl
    refine ⟨Free.want_none rfl, .agg #[.int .i64 dl, .slice A9 (n - m) c9], w1, ?_, ⟨A9, c9, rfl, h9⟩, .inr (.inl rfl), hI⟩
    clear hp
    go_simp
  refine Free.Seq3.skip rfl (TS w dl (n - m) (wcs (ws.take k ++ ws.drop (k + m)))) (fun j hj hr x y h hs => ?_) (fun a w1 L hI hp => ?_) ?_
  · rcases hs with e | hs | ⟨e, _⟩
    · have h1 := hr 40
      subst e
      exact (Bool.false_ne_true (h1.symm.trans (by kernel_rfl))).elim
    · rw [hs]; exact h
    · exact absurd e hj
  · have e6 := hp.slotV 6 (by kernel_rfl) rfl; simp at e6
    obtain ⟨A9, c9, e48, h9⟩ := hp.back 10 0 rfl rfl rfl rfl rfl
    obtain ⟨x0, y0, hres⟩ := hI.res
    have r0 : w1.cell? ⟨w.heap.size + 1, 0, none⟩ = some x0 := by rw [cell_of_cells hres]; rfl
    have r1 : w1.cell? ⟨w.heap.size + 1, 1, none⟩ = some y0 := by rw [cell_of_cells hres]; rfl
    have f0 : w1.frozen? ⟨w.heap.size + 1, 0, none⟩ = false := frozen_of_row w1 _ 0 _ _ hres
    have f1 : w1.frozen? ⟨w.heap.size + 1, 1, none⟩ = false := frozen_of_row w1 _ 1 _ _ hres
    have hst := hI.stored (.int .i64 dl) (.slice A9 (n - m) c9)
    refine ⟨Free.want_none rfl, (w1.setCell ⟨w.heap.size + 1, 0, none⟩ (.int .i64 dl)).setCell ⟨w.heap.size + 1, 1, none⟩ (.slice A9 (n - m) c9), ?_, ⟨A9, c9, hst.2, row_sr h9 (.inr ⟨_, _, rfl⟩)⟩, .inr (.inr ⟨rfl, _, _, rfl⟩), hst.1⟩
    clear hp hst hres
    go_simp
  refine Free.Seq3.val ?_ (fun _ => .inr (.inl rfl)) (fun _ _ h => h) (fun a w1 L hI hp => ?_) ?_
  rotate_left
  · skip
    refine ⟨Free.want_none rfl, ?_⟩
    clear hp
    go_simp
    rfl
  refine Free.Seq3.done (by simp) (fun wz L hIz hLz => ?_)
  simp only [List.reverse_cons, List.reverse_nil, List.nil_append, List.cons_append, Free.All, Free.eqF, forall_eq]
  rintro xA - xB - - ⟨A9, c9, hres, h9⟩
  simp only [Free.putL, Act.put, List.setIfInBounds_toArray, List.set_cons_zero, List.set_cons_succ]
  generalize (if c = k + m then A else Option.map (fun x => x.add ((k + m) * 2)) A) = z1
  go_wp2
  refine bodyPost_ret (results_cell2 rfl _ _ (w.heap.size + 1) _ _ _ _ rfl hres Try.underlying38 rfl (by kernel_rfl)) rfl ?_
  exact ⟨A9, c9, rfl, row_base h9 (by omega), hIz.bel⟩

set_option maxHeartbeats 2000000 in
theorem rinsert_range (w : World) (dl : Int) (A : Option Addr) (n c : Nat) (at_ : Int) (b : UInt8) (ha : at_ < 0 ∨ (n : Int) < at_) :
    Calls Try.prog 25 #[.agg #[.int .i64 dl, .slice A n c], .int .i64 at_, bv b] w fun e w' => e = .returned (.tuple #[.agg #[.int .i64 dl, .slice A n c], .int .i64 1]) ∧ Below w.heap.size w w' := by
  by_cases h0 : at_ < 0
  · have t1 : decide (at_ < 0) = true := by simp; omega
    clear ha
    go_enter Try.func25, Try.ntmps25
    go_wp2
    go_returns
    exact ⟨rfl, ((Below.refl w.heap.size w).alloc (Nat.le_refl _) _).alloc (by simp) _⟩
  have t1 : decide (at_ < 0) = false := by simp; omega
  have t3 : decide ((n : Int) < at_) = true := by simp; omega
  clear ha
  go_enter Try.func25, Try.ntmps25
  go_wp2
  go_returns
  exact ⟨rfl, ((Below.refl w.heap.size w).alloc (Nat.le_refl _) _).alloc (by simp) _⟩

set_option maxHeartbeats 2000000 in
theorem rinsert_full (w : World) (dl : Int) (A : Option Addr) (c : Nat) (k : Nat) (b : UInt8) (hk : k ≤ 65536) :
    Calls Try.prog 25 #[.agg #[.int .i64 dl, .slice A 65536 c], .int .i64 k, bv b] w fun e w' => e = .returned (.tuple #[.agg #[.int .i64 dl, .slice A 65536 c], .int .i64 6]) ∧ Below w.heap.size w w' := by
  go_enter Try.func25, Try.ntmps25
  go_wp2
  go_returns
  exact ⟨rfl, ((Below.refl w.heap.size w).alloc (Nat.le_refl _) _).alloc (by simp) _⟩

set_option maxHeartbeats 4000000 in
theorem rinsert_any (w : World) (dl : Int) (A : Option Addr) (n c : Nat) (ws : List (UInt8 × Int)) (h : RdC w A n c 2 (wcs ws)) (hl : ws.length = n) (hn : n < 65536) (k : Nat) (hk : k ≤ n) (b : UInt8) (z : Int) (hz0 : n = 0 → z = dl) (hz1 : ∀ x, 0 < n → ws[min k (n - 1)]? = some x → z = x.2) :
    Calls Try.prog 25 #[.agg #[.int .i64 dl, .slice A n c], .int .i64 k, bv b] w fun e w' => ∃ A2 c2, e = .returned (.tuple #[.agg #[.int .i64 dl, .slice A2 (n + 1) c2], .int .i64 0]) ∧ w'.ownsRow w.heap.size 61 2 (.slice A2 (n + 1) c2) (n + 1) (wcs (ws.take k ++ (b, z) :: ws.drop k)) ∧ Below w.heap.size w w' := by
  have t3 : decide ((n : Int) < (k : Int)) = false := by simp; omega
  have t4 : decide ((65536 : Int) ≤ (n : Int)) = false := by simp; omega
  have hcap := h.cap
  have HL := Lib.hid hl
  have HR := Lib.hid h
  have HS := Lib.hid ((((h.take (k := k) (by omega)).stays (.alloc w (lbox dl (.slice A n c)))).stays (.alloc _ lres)).stays (.alloc _ (.cells #[] 61)) |>.src (fun u hu => wcs_one ws u (List.mem_of_mem_take hu)))
  have HD := Lib.hid (h.drop (k := k) (by omega))
  have HZ0 := Lib.hid hz0
  have HZ1 := Lib.hid hz1
  have hw3 : IntKind.i64.wrap ((n : Int) - 1) = (n : Int) - 1 := IntWalk.i64_in _ ⟨by omega, by omega⟩
  have hN : Hid (k + 1 + (n - k) = n + 1) := by show _ = _; omega
  clear h hl hz0 hz1
  go_enter Try.func25, Try.ntmps25
  rcases Nat.eq_zero_or_pos n with hn0 | hn0
  · have t6 : decide (0 < n) = false := by simp; omega
    obtain rfl : dl = z := (HZ0.out hn0).symm
    clear hn0
    go_wp2_with (first
      | ((with_reducible show wpList _ _ _ (⟨some 47, _, _, _, _, _⟩ :: _) _ _); refine wpList_app _ rfl elemW (.tmp 42) (.tmp 46) rfl rfl (own_empty _ (w.heap.size + 2) _ _ 2 (by simp) (by simp)) rfl HS.out k (by omega) (by omega) (by simp) ?_; intro A1 c1 w1 hown1 hg1 hat1; have HI1 := Lib.hid (RI.begin hg1 (by intro k hk; simp [Value.ownBlock, Act.eval] at hk; omega) hown1); clear hown1 hg1 hat1)
      | ((with_reducible show wpList _ _ _ (⟨some 53, _, _, _, _, _⟩ :: _) _ _); refine wpList_app _ rfl elemW (.tmp 48) (.tmp 52) rfl rfl (HI1.out.alloc (.cells #[bv b, .int .i64 dl] 61)).own rfl (Src.new' w1 _ rfl [_, _] _ 1 2 rfl (by simp [Value.oneCell'])) (k + 1) rfl (by omega) (HI1.out.alloc _).lt ?_; intro A2 c2 w2 hown2 hg2 hat2; have HI2 := Lib.hid ((HI1.out.alloc (.cells #[bv b, .int .i64 dl] 61)).grown hg2 (fun i hi => ((HI1.out.alloc (.cells #[bv b, .int .i64 dl] 61)).own.lt i hi).1) (cb := false) hown2); clear hown2 hg2 hat2))
    refine Free.wp_seq3 (I := fun L w' => RI w dl (.slice A n c) (L 7) (.slice A2 (k + 1) c2) (k + 1) (([] ++ (wcs ws).take (k * 2)) ++ [bv b, .int .i64 dl]) w') (Gr := fun j x y => j = 7 ∨ (y = x ∨ (j = 9 ∧ ∃ p q, y = (x.setCell ⟨w.heap.size + 1, 0, none⟩ p).setCell ⟨w.heap.size + 1, 1, none⟩ q))) (by kernel_rfl) (by kernel_rfl) HI2.out.drew ?_
    refine Free.Seq3.val ?_ (fun _ => .inr (.inl rfl)) (fun _ _ h => h) (fun a w1 L hI hp => ?_) ?_
    rotate_left
    · have e3 := hp.slotV 3 (by kernel_rfl) rfl; simp at e3
      refine ⟨Free.want_none rfl, ?_⟩
      clear hp
      go_simp
      rfl
    refine Free.Seq3.val ?_ (fun _ => .inr (.inl rfl)) (fun _ _ h => h) (fun a w1 L hI hp => ?_) ?_
    rotate_left
    · have e54 := hp.backV 0 0 rfl rfl rfl rfl rfl
      have k0 := hI.c0
      refine ⟨Free.want_none rfl, ?_⟩
      clear hp
      go_simp
      rfl
    refine Free.Seq3.val ?_ (fun _ => .inr (.inl rfl)) (fun _ _ h => h) (fun a w1 L hI hp => ?_) ?_
    rotate_left
    · have e9 := hp.slotV 9 (by kernel_rfl) rfl; simp at e9
      refine ⟨Free.want_none rfl, ?_⟩
      clear hp
      go_simp
      rfl
    refine Free.Seq3.val ?_ (fun _ => .inr (.inl rfl)) (fun _ _ h => h) (fun a w1 L hI hp => ?_) ?_
    rotate_left
    · have e3 := hp.slotV 3 (by kernel_rfl) rfl; simp at e3
      refine ⟨Free.want_none rfl, ?_⟩
      clear hp
      go_simp
      rfl
    refine Free.Seq3.val ?_ (fun _ => .inr (.inl rfl)) (fun _ _ h => h) (fun a w1 L hI hp => ?_) ?_
    rotate_left
    · have e57 := hp.backV 3 0 rfl rfl rfl rfl rfl
      have k1 := hI.c1
      refine ⟨Free.want_none rfl, ?_⟩
      clear hp
      go_simp
      rfl
    refine Free.Seq3.val ?_ (fun _ => .inr (.inl rfl)) (fun _ _ h => h) (fun a w1 L hI hp => ?_) ?_
    rotate_left
    · have e1 := hp.slotV 1 (by kernel_rfl) rfl; simp at e1
      refine ⟨Free.want_none rfl, ?_⟩
      clear hp
      go_simp
      rfl
    refine Free.Seq3.val ?_ (fun _ => .inr (.inl rfl)) (fun _ _ h => h) (fun a w1 L hI hp => ?_) ?_
    rotate_left
    · have e58 := hp.backV 4 1 rfl rfl rfl rfl rfl; have e59 := hp.backV 5 0 rfl rfl rfl rfl rfl
      refine ⟨Free.want_none rfl, ?_⟩
      clear hp
      go_simp
      rfl
    refine Free.Seq3.op (T := TA w (n + 1) (wcs (ws.take k ++ (b, dl) :: ws.drop k))) (fun j hj hr v x y h hs => hs.elim (fun e => absurd e hj) (fun hs => h.mono (hs.imp id (fun h => h.2)))) (fun a w1 L hI hp => ?_) ?_
    · have e56 := hp.backV 2 4 rfl rfl rfl rfl rfl; have e60 := hp.backV 6 0 rfl rfl rfl rfl rfl
      have hfr : L 7 = false := hp.fresh
      have hown : w1.ownsRow (w.heap.size + 2) 61 2 (.slice A2 (k + 1) c2) (k + 1) (([] ++ (wcs ws).take (k * 2)) ++ [bv b, .int .i64 dl]) := by have h := hI.own; rw [hfr] at h; exact h
      obtain ⟨A9, c9, w9, hrun, h9, hg9, _⟩ := run_app w1 elemW _ hown (c - k) ((HD.out.stays hI.stays).src (fun u hu => wcs_one ws u (List.mem_of_mem_drop hu))) (N := n + 1) hN.out (by omega) hI.lt
      refine ⟨Free.want_none rfl, .slice A9 (n + 1) c9, w9, ?_, ⟨A9, c9, rfl, ?_⟩, .inl rfl, hI.grown hg9 (fun k hk => (hown.lt k hk).1) (by trivial)⟩
      · exact Free.exec_app (.tmp 56) (.tmp 60) rfl (Free.eval_tmp e56) (Free.eval_tmp e60) hrun
      · have e : wcs (ws.take k ++ (b, dl) :: ws.drop k) = (([] ++ (wcs ws).take (k * 2)) ++ [bv b, .int .i64 dl]) ++ (wcs ws).drop (k * 2) := by simp [wcs_append, wcs_take, wcs_drop, wcs]
        rw [e]
        exact h9
    refine Free.Seq3.op (T := TB w dl (n + 1) (wcs (ws.take k ++ (b, dl) :: ws.drop k))) (fun j hj hr v x y h hs => hs.elim (fun e => by have h1 := hr 40; subst e; exact (Bool.false_ne_true (h1.symm.trans (by kernel_rfl))).elim) (fun hs => h.mono (hs.imp id (fun h => h.2)))) (fun a w1 L hI hp => ?_) ?_
    · have e55 := hp.backV 1 6 rfl rfl rfl rfl rfl
      obtain ⟨A9, c9, e61, h9⟩ := hp.back 7 0 rfl rfl rfl rfl rfl
      refine ⟨Free.want_none rfl, .agg #[.int .i64 dl, .slice A9 (n + 1) c9], w1, ?_, ⟨A9, c9, rfl, h9⟩, .inr (.inl rfl), hI⟩
      clear hp
      go_simp
    refine Free.Seq3.skip rfl (TS w dl (n + 1) (wcs (ws.take k ++ (b, dl) :: ws.drop k))) (fun j hj hr x y h hs => ?_) (fun a w1 L hI hp => ?_) ?_
    · rcases hs with e | hs | ⟨e, _⟩
      · have h1 := hr 40
        subst e
        exact (Bool.false_ne_true (h1.symm.trans (by kernel_rfl))).elim
      · rw [hs]; exact h
      · exact absurd e hj
    · have e6 := hp.slotV 6 (by kernel_rfl) rfl; simp at e6
      obtain ⟨A9, c9, e62, h9⟩ := hp.back 8 0 rfl rfl rfl rfl rfl
      obtain ⟨x0, y0, hres⟩ := hI.res
      have r0 : w1.cell? ⟨w.heap.size + 1, 0, none⟩ = some x0 := by rw [cell_of_cells hres]; rfl
      have r1 : w1.cell? ⟨w.heap.size + 1, 1, none⟩ = some y0 := by rw [cell_of_cells hres]; rfl
      have f0 : w1.frozen? ⟨w.heap.size + 1, 0, none⟩ = false := frozen_of_row w1 _ 0 _ _ hres
      have f1 : w1.frozen? ⟨w.heap.size + 1, 1, none⟩ = false := frozen_of_row w1 _ 1 _ _ hres
      have hst := hI.stored (.int .i64 dl) (.slice A9 (n + 1) c9)
      refine ⟨Free.want_none rfl, (w1.setCell ⟨w.heap.size + 1, 0, none⟩ (.int .i64 dl)).setCell ⟨w.heap.size + 1, 1, none⟩ (.slice A9 (n + 1) c9), ?_, ⟨A9, c9, hst.2, row_sr h9 (.inr ⟨_, _, rfl⟩)⟩, .inr (.inr ⟨rfl, _, _, rfl⟩), hst.1⟩
      clear hp hst hres
      go_simp
    refine Free.Seq3.val ?_ (fun _ => .inr (.inl rfl)) (fun _ _ h => h) (fun a w1 L hI hp => ?_) ?_
    rotate_left
    · skip
      refine ⟨Free.want_none rfl, ?_⟩
      clear hp
      go_simp
      rfl
    refine Free.Seq3.done (by simp) (fun wz L hIz hLz => ?_)
    simp only [List.reverse_cons, List.reverse_nil, List.nil_append, List.cons_append, Free.All, Free.eqF, forall_eq]
    rintro xA - xB - - ⟨A9, c9, hres, h9⟩
    simp only [Free.putL, Act.put, List.setIfInBounds_toArray, List.set_cons_zero, List.set_cons_succ]
    generalize (if c = k then A else Option.map (fun x => x.add (k * 2)) A) = z1
    go_wp2
    refine bodyPost_ret (results_cell2 rfl _ _ (w.heap.size + 1) _ _ _ _ rfl hres Try.underlying38 rfl (by kernel_rfl)) rfl ?_
    exact ⟨A9, c9, rfl, row_base h9 (by omega), hIz.bel⟩

  · have t6 : decide (0 < n) = true := by simp; omega
    obtain ⟨j, hj⟩ : ∃ j, j = min k (n - 1) := ⟨_, rfl⟩
    have hjn : j < n := by omega
    have hx : ws[j]? = some (ws[j]'(by rw [HL.out]; exact hjn)) := List.getElem?_eq_getElem _
    obtain ⟨x, hx'⟩ : ∃ x, x = ws[j]'(by rw [HL.out]; exact hjn) := ⟨_, rfl⟩
    rw [← hx'] at hx
    have hzx : z = x.2 := HZ1.out x hn0 (by rw [← hj]; exact hx)
    obtain ⟨bb, off, rfl, hblt, hcell⟩ := HR.out.at' hjn
    have d1 : w.cell? ⟨bb, off + j * 2 + 1, none⟩ = some (.int .i64 z) := by rw [hzx]; exact hcell 1 _ (wcs_get ws j x hx).2
    have d2 : ((w.alloc (lbox dl (.slice (some ⟨bb, off, none⟩) n c))).alloc lres).cell? ⟨bb, off + j * 2 + 1, none⟩ = some (.int .i64 z) := (World.cell?_alloc_lt _ _ (a := ⟨bb, off + j * 2 + 1, none⟩) (by simp; omega)).trans ((World.cell?_alloc_lt _ _ (a := ⟨bb, off + j * 2 + 1, none⟩) hblt).trans d1)
    have hmin : (if (n : Int) - 1 < (k : Int) then (n : Int) - 1 else (k : Int)) = (j : Int) := by split <;> omega
    have HJ := Lib.hid hj
    have HD' := Lib.hid (show RdC w (if c = k then some ⟨bb, off, none⟩ else some ⟨bb, off + k * 2, none⟩) (n - k) (c - k) 2 ((wcs ws).drop (k * 2)) from by simpa [add_none] using HD.out)
    clear hj hx hx' hzx hcell d1
    go_wp2_with (first
      | ((with_reducible show wpList _ _ _ (⟨some 47, _, _, _, _, _⟩ :: _) _ _); refine wpList_app _ rfl elemW (.tmp 42) (.tmp 46) rfl rfl (own_empty _ (w.heap.size + 2) _ _ 2 (by simp) (by simp)) rfl HS.out k (by omega) (by omega) (by simp) ?_; intro A1 c1 w1 hown1 hg1 hat1; have HI1 := Lib.hid (RI.begin hg1 (by intro k hk; simp [Value.ownBlock, Act.eval] at hk; omega) hown1); clear hown1 hg1 hat1)
      | ((with_reducible show wpList _ _ _ (⟨some 53, _, _, _, _, _⟩ :: _) _ _); refine wpList_app _ rfl elemW (.tmp 48) (.tmp 52) rfl rfl (HI1.out.alloc (.cells #[bv b, .int .i64 z] 61)).own rfl (Src.new' w1 _ rfl [_, _] _ 1 2 rfl (by simp [Value.oneCell'])) (k + 1) rfl (by omega) (HI1.out.alloc _).lt ?_; intro A2 c2 w2 hown2 hg2 hat2; have HI2 := Lib.hid ((HI1.out.alloc (.cells #[bv b, .int .i64 z] 61)).grown hg2 (fun i hi => ((HI1.out.alloc (.cells #[bv b, .int .i64 z] 61)).own.lt i hi).1) (cb := false) hown2); clear hown2 hg2 hat2))
    refine Free.wp_seq3 (I := fun L w' => RI w dl (.slice (some ⟨bb, off, none⟩) n c) (L 7) (.slice A2 (k + 1) c2) (k + 1) (([] ++ (wcs ws).take (k * 2)) ++ [bv b, .int .i64 z]) w') (Gr := fun j x y => j = 7 ∨ (y = x ∨ (j = 9 ∧ ∃ p q, y = (x.setCell ⟨w.heap.size + 1, 0, none⟩ p).setCell ⟨w.heap.size + 1, 1, none⟩ q))) (by kernel_rfl) (by kernel_rfl) HI2.out.drew ?_
    refine Free.Seq3.val ?_ (fun _ => .inr (.inl rfl)) (fun _ _ h => h) (fun a w1 L hI hp => ?_) ?_
    rotate_left
    · have e3 := hp.slotV 3 (by kernel_rfl) rfl; simp at e3
      refine ⟨Free.want_none rfl, ?_⟩
      clear hp
      go_simp
      rfl
    refine Free.Seq3.val ?_ (fun _ => .inr (.inl rfl)) (fun _ _ h => h) (fun a w1 L hI hp => ?_) ?_
    rotate_left
    · have e54 := hp.backV 0 0 rfl rfl rfl rfl rfl
      have k0 := hI.c0
      refine ⟨Free.want_none rfl, ?_⟩
      clear hp
      go_simp
      rfl
    refine Free.Seq3.val ?_ (fun _ => .inr (.inl rfl)) (fun _ _ h => h) (fun a w1 L hI hp => ?_) ?_
    rotate_left
    · have e9 := hp.slotV 9 (by kernel_rfl) rfl; simp at e9
      refine ⟨Free.want_none rfl, ?_⟩
      clear hp
      go_simp
      rfl
    refine Free.Seq3.val ?_ (fun _ => .inr (.inl rfl)) (fun _ _ h => h) (fun a w1 L hI hp => ?_) ?_
    rotate_left
    · have e3 := hp.slotV 3 (by kernel_rfl) rfl; simp at e3
      refine ⟨Free.want_none rfl, ?_⟩
      clear hp
      go_simp
      rfl
    refine Free.Seq3.val ?_ (fun _ => .inr (.inl rfl)) (fun _ _ h => h) (fun a w1 L hI hp => ?_) ?_
    rotate_left
    · have e57 := hp.backV 3 0 rfl rfl rfl rfl rfl
      have k1 := hI.c1
      refine ⟨Free.want_none rfl, ?_⟩
      clear hp
      go_simp
      rfl
    refine Free.Seq3.val ?_ (fun _ => .inr (.inl rfl)) (fun _ _ h => h) (fun a w1 L hI hp => ?_) ?_
    rotate_left
    · have e1 := hp.slotV 1 (by kernel_rfl) rfl; simp at e1
      refine ⟨Free.want_none rfl, ?_⟩
      clear hp
      go_simp
      rfl
    refine Free.Seq3.val ?_ (fun _ => .inr (.inl rfl)) (fun _ _ h => h) (fun a w1 L hI hp => ?_) ?_
    rotate_left
    · have e58 := hp.backV 4 1 rfl rfl rfl rfl rfl; have e59 := hp.backV 5 0 rfl rfl rfl rfl rfl
      refine ⟨Free.want_none rfl, ?_⟩
      clear hp
      go_simp
      rfl
    refine Free.Seq3.op (T := TA w (n + 1) (wcs (ws.take k ++ (b, z) :: ws.drop k))) (fun j hj hr v x y h hs => hs.elim (fun e => absurd e hj) (fun hs => h.mono (hs.imp id (fun h => h.2)))) (fun a w1 L hI hp => ?_) ?_
    · have e56 := hp.backV 2 4 rfl rfl rfl rfl rfl; have e60 := hp.backV 6 0 rfl rfl rfl rfl rfl
      have hfr : L 7 = false := hp.fresh
      have hown : w1.ownsRow (w.heap.size + 2) 61 2 (.slice A2 (k + 1) c2) (k + 1) (([] ++ (wcs ws).take (k * 2)) ++ [bv b, .int .i64 z]) := by have h := hI.own; rw [hfr] at h; exact h
      obtain ⟨A9, c9, w9, hrun, h9, hg9, _⟩ := run_app w1 elemW _ hown (c - k) ((HD'.out.stays hI.stays).src (fun u hu => wcs_one ws u (List.mem_of_mem_drop hu))) (N := n + 1) hN.out (by omega) hI.lt
      refine ⟨Free.want_none rfl, .slice A9 (n + 1) c9, w9, ?_, ⟨A9, c9, rfl, ?_⟩, .inl rfl, hI.grown hg9 (fun k hk => (hown.lt k hk).1) (by trivial)⟩
      · exact Free.exec_app (.tmp 56) (.tmp 60) rfl (Free.eval_tmp e56) (Free.eval_tmp e60) hrun
      · have e : wcs (ws.take k ++ (b, z) :: ws.drop k) = (([] ++ (wcs ws).take (k * 2)) ++ [bv b, .int .i64 z]) ++ (wcs ws).drop (k * 2) := by simp [wcs_append, wcs_take, wcs_drop, wcs]
        rw [e]
        exact h9
    refine Free.Seq3.op (T := TB w dl (n + 1) (wcs (ws.take k ++ (b, z) :: ws.drop k))) (fun j hj hr v x y h hs => hs.elim (fun e => by have h1 := hr 40; subst e; exact (Bool.false_ne_true (h1.symm.trans (by kernel_rfl))).elim) (fun hs => h.mono (hs.imp id (fun h => h.2)))) (fun a w1 L hI hp => ?_) ?_
    · have e55 := hp.backV 1 6 rfl rfl rfl rfl rfl
      obtain ⟨A9, c9, e61, h9⟩ := hp.back 7 0 rfl rfl rfl rfl rfl
      refine ⟨Free.want_none rfl, .agg #[.int .i64 dl, .slice A9 (n + 1) c9], w1, ?_, ⟨A9, c9, rfl, h9⟩, .inr (.inl rfl), hI⟩
      clear hp
      go_simp
    refine Free.Seq3.skip rfl (TS w dl (n + 1) (wcs (ws.take k ++ (b, z) :: ws.drop k))) (fun j hj hr x y h hs => ?_) (fun a w1 L hI hp => ?_) ?_
    · rcases hs with e | hs | ⟨e, _⟩
      · have h1 := hr 40
        subst e
        exact (Bool.false_ne_true (h1.symm.trans (by kernel_rfl))).elim
      · rw [hs]; exact h
      · exact absurd e hj
    · have e6 := hp.slotV 6 (by kernel_rfl) rfl; simp at e6
      obtain ⟨A9, c9, e62, h9⟩ := hp.back 8 0 rfl rfl rfl rfl rfl
      obtain ⟨x0, y0, hres⟩ := hI.res
      have r0 : w1.cell? ⟨w.heap.size + 1, 0, none⟩ = some x0 := by rw [cell_of_cells hres]; rfl
      have r1 : w1.cell? ⟨w.heap.size + 1, 1, none⟩ = some y0 := by rw [cell_of_cells hres]; rfl
      have f0 : w1.frozen? ⟨w.heap.size + 1, 0, none⟩ = false := frozen_of_row w1 _ 0 _ _ hres
      have f1 : w1.frozen? ⟨w.heap.size + 1, 1, none⟩ = false := frozen_of_row w1 _ 1 _ _ hres
      have hst := hI.stored (.int .i64 dl) (.slice A9 (n + 1) c9)
      refine ⟨Free.want_none rfl, (w1.setCell ⟨w.heap.size + 1, 0, none⟩ (.int .i64 dl)).setCell ⟨w.heap.size + 1, 1, none⟩ (.slice A9 (n + 1) c9), ?_, ⟨A9, c9, hst.2, row_sr h9 (.inr ⟨_, _, rfl⟩)⟩, .inr (.inr ⟨rfl, _, _, rfl⟩), hst.1⟩
      clear hp hst hres
      go_simp
    refine Free.Seq3.val ?_ (fun _ => .inr (.inl rfl)) (fun _ _ h => h) (fun a w1 L hI hp => ?_) ?_
    rotate_left
    · skip
      refine ⟨Free.want_none rfl, ?_⟩
      clear hp
      go_simp
      rfl
    refine Free.Seq3.done (by simp) (fun wz L hIz hLz => ?_)
    simp only [List.reverse_cons, List.reverse_nil, List.nil_append, List.cons_append, Free.All, Free.eqF, forall_eq]
    rintro xA - xB - - ⟨A9, c9, hres, h9⟩
    simp only [Free.putL, Act.put, List.setIfInBounds_toArray, List.set_cons_zero, List.set_cons_succ]
    generalize (if c = k then some (⟨bb, off, none⟩ : Addr) else some ⟨bb, off + k * 2, none⟩) = z1
    go_wp2
    refine bodyPost_ret (results_cell2 rfl _ _ (w.heap.size + 1) _ _ _ _ rfl hres Try.underlying38 rfl (by kernel_rfl)) rfl ?_
    exact ⟨A9, c9, rfl, row_base h9 (by omega), hIz.bel⟩


theorem wcs_set : ∀ (l : List (UInt8 × Int)) (k : Nat) (p : UInt8 × Int), wcs (l.set k p) = ((wcs l).set (k * 2) (bv p.1)).set (k * 2 + 1) (.int .i64 p.2)
  | [], k, p => by simp [wcs]
  | x :: l, 0, p => by simp [wcs]
  | x :: l, k + 1, p => by
    have := wcs_set l k p
    rw [show (k + 1) * 2 = k * 2 + 1 + 1 by omega]
    simp [wcs, this]

set_option maxHeartbeats 2000000 in
theorem rflip_range (w : World) (dl : Int) (A : Option Addr) (n c : Nat) (at_ mask : Int) (ha : at_ < 0 ∨ (n : Int) ≤ at_) :
    Calls Try.prog 24 #[.agg #[.int .i64 dl, .slice A n c], .int .i64 at_, .int .i64 mask] w fun e w' => e = .returned (.tuple #[.agg #[.int .i64 dl, .slice A n c], .int .i64 1]) ∧ Below w.heap.size w w' := by
  by_cases h0 : at_ < 0
  · have t1 : decide (at_ < 0) = true := by simp; omega
    clear ha
    go_enter Try.func24, Try.ntmps24
    go_wp2
    go_returns
    exact ⟨rfl, ((Below.refl w.heap.size w).alloc (Nat.le_refl _) _).alloc (by simp) _⟩
  have t1 : decide (at_ < 0) = false := by simp; omega
  have t3 : decide ((n : Int) ≤ at_) = true := by simp; omega
  clear ha
  go_enter Try.func24, Try.ntmps24
  go_wp2
  go_returns
  exact ⟨rfl, ((Below.refl w.heap.size w).alloc (Nat.le_refl _) _).alloc (by simp) _⟩

set_option maxHeartbeats 2000000 in
theorem rflip_form (w : World) (dl : Int) (A : Option Addr) (n c : Nat) (k : Nat) (hk : k < n) (mask : Int) (hm : IntKind.u8.wrap mask = 0) :
    Calls Try.prog 24 #[.agg #[.int .i64 dl, .slice A n c], .int .i64 k, .int .i64 mask] w fun e w' => e = .returned (.tuple #[.agg #[.int .i64 dl, .slice A n c], .int .i64 2]) ∧ Below w.heap.size w w' := by
  have t3 : decide ((n : Int) ≤ (k : Int)) = false := by simp; omega
  go_enter Try.func24, Try.ntmps24
  go_wp2
  go_returns
  exact ⟨rfl, ((Below.refl w.heap.size w).alloc (Nat.le_refl _) _).alloc (by simp) _⟩

set_option maxHeartbeats 2000000 in
theorem rflip_any (w : World) (dl : Int) (A : Option Addr) (n c : Nat) (ws : List (UInt8 × Int)) (h : RdC w A n c 2 (wcs ws)) (hl : ws.length = n) (hn : n ≤ 65536) (k : Nat) (hk : k < n) (mask : Int) (m : UInt8) (hm : IntKind.u8.wrap mask = (m.toNat : Int)) (hm0 : m ≠ 0) (x : UInt8 × Int) (hx : ws[k]? = some x) :
    Calls Try.prog 24 #[.agg #[.int .i64 dl, .slice A n c], .int .i64 k, .int .i64 mask] w fun e w' => ∃ A2 c2, e = .returned (.tuple #[.agg #[.int .i64 dl, .slice A2 n c2], .int .i64 0]) ∧ w'.ownsRow w.heap.size 61 2 (.slice A2 n c2) n (wcs (ws.set k (x.1 ^^^ m, x.2))) ∧ Below w.heap.size w w' := by
  have hcap := h.cap
  obtain ⟨b, off, rfl, hblt, hcell⟩ := h.at' hk
  have hwl : (wcs ws).length = n * 2 := by rw [wcs_len, hl]
  have HS := Lib.hid (((h.stays (.alloc w (lbox dl (.slice (some ⟨b, off, none⟩) n c)))).stays (.alloc _ lres)).stays (.alloc _ (.cells #[] 61)) |>.src (wcs_one ws))
  have d0 := hcell 0 _ (wcs_get ws k x hx).1
  have d1 := hcell 1 _ (wcs_get ws k x hx).2
  have t3 : decide ((n : Int) ≤ (k : Int)) = false := by simp; omega
  have t5 : ((m.toNat : Int) == 0) = false := by
    simp
    intro e
    exact hm0 (UInt8.toNat_inj.1 (by simpa using e))
  obtain ⟨y, hy⟩ : ∃ y : Nat, y = m.toNat := ⟨_, rfl⟩
  obtain ⟨z, hz⟩ : ∃ z : Nat, z = x.1.toNat := ⟨_, rfl⟩
  have hxx : Hid (Value.int .u8 (bits .xor .u8 (z : Int) (y : Int)) = bv (x.1 ^^^ m)) := by
    rw [hz, hy]
    show _ = _
    rw [u8_xor_nat _ _ (by have := x.1.toNat_lt; simpa using this) (by have := m.toNat_lt; simpa using this)]
    simp [bv]
  unfold bv at d0
  rw [← hz] at d0
  rw [← hy] at hm t5
  obtain ⟨x1, x2⟩ := x
  have HWL := Lib.hid hwl
  clear h hl hcell hx hm0 hy hz hwl
  go_enter Try.func24, Try.ntmps24
  go_wp2_with ((with_reducible show wpList _ _ _ (⟨some 26, _, _, _, _, _⟩ :: _) _ _); refine wpList_app _ rfl elemW (.tmp 23) (.tmp 25) rfl rfl (own_empty _ (w.heap.size + 2) _ _ 2 (by simp) (by simp)) rfl HS.out n (by omega) (by omega) (by simp) ?_; intro A1 c1 w1 hown1 hg1 hat1)
  rw [List.nil_append] at hown1
  have HI := Lib.hid (RI.begin hg1 (by intro k hk; simp [Value.ownBlock, Act.eval] at hk; omega) hown1)
  obtain ⟨g, capg, hv, hBg, hgl⟩ := World.ownsRow.form hown1 (by omega)
  injection hv with hv1 _ hv3
  subst hv1 hv3
  have k1 := HI.out.c1
  have q0 : w1.cell? ⟨b, off + k * 2, none⟩ = some (.int .u8 (z : Int)) := (HI.out.stays.2 ⟨b, off + k * 2, none⟩ hblt).trans d0
  have q1 : w1.cell? ⟨b, off + k * 2 + 1, none⟩ = some (.int .i64 x2) := (HI.out.stays.2 ⟨b, off + k * 2 + 1, none⟩ hblt).trans d1
  have o0 : w1.cell? ⟨g, k * 2, none⟩ = some ((wcs ws)[k * 2]'(by have := HWL.out; omega)) := by rw [World.ownsRow.cellAt hown1 _ (by omega)]; exact List.getElem?_eq_getElem _
  have o1 : w1.cell? ⟨g, k * 2 + 1, none⟩ = some ((wcs ws)[k * 2 + 1]'(by have := HWL.out; omega)) := by rw [World.ownsRow.cellAt hown1 _ (by omega)]; exact List.getElem?_eq_getElem _
  generalize (wcs ws)[k * 2]'(by have := HWL.out; omega) = u0 at o0
  generalize (wcs ws)[k * 2 + 1]'(by have := HWL.out; omega) = u1 at o1
  have f0 : w1.frozen? ⟨g, k * 2, none⟩ = false := World.ownsRow.frozenAt hown1 _
  have f1 : w1.frozen? ⟨g, k * 2 + 1, none⟩ = false := World.ownsRow.frozenAt hown1 _
  have HO := Lib.hid hown1
  clear hown1 hg1 hat1 d0 d1
  have hkn : k < n := hk
  go_wp2_with fail
  go_still_tail 19, (by kernel_rfl)
  change wpList _ _ _ _ _ w1.drew
  have k0 := HI.out.c0
  obtain ⟨x0, y0, hres⟩ := HI.out.res
  have r0 : w1.cell? ⟨w.heap.size + 1, 0, none⟩ = some x0 := by rw [cell_of_cells hres]; rfl
  have r1 : w1.cell? ⟨w.heap.size + 1, 1, none⟩ = some y0 := by rw [cell_of_cells hres]; rfl
  have rf0 : w1.frozen? ⟨w.heap.size + 1, 0, none⟩ = false := frozen_of_row w1 _ 0 _ _ hres
  have rf1 : w1.frozen? ⟨w.heap.size + 1, 1, none⟩ = false := frozen_of_row w1 _ 1 _ _ hres
  have hne1 : g ≠ w.heap.size := by omega
  have hne2 : g ≠ w.heap.size + 1 := by omega
  have HRES := Lib.hid hres
  clear hres
  go_wp2_with fail
  rw [hxx.out]
  have hst := (HO.out.stored (k * 2) (bv (x1 ^^^ m))).1.stored (k * 2 + 1) (.int .i64 x2)
  have hrow := ownsRow_setCell_below (a := ⟨w.heap.size + 1, 1, none⟩) (ownsRow_setCell_below (a := ⟨w.heap.size + 1, 0, none⟩) hst.1 (by simp) (.int .i64 dl)) (by simp) (.slice (some ⟨g, 0, none⟩) n c1)
  rw [← wcs_set ws k (x1 ^^^ m, x2)] at hrow
  have hheap := heap_setCell_same _ _ 1 _ _ (.slice (some ⟨g, 0, none⟩) n c1) (heap_setCell_same _ _ 0 _ _ (.int .i64 dl) ((heap_setCell_other (w1.setCell ⟨g, k * 2, none⟩ (bv (x1 ^^^ m))) ⟨g, k * 2 + 1, none⟩ (w.heap.size + 1) (.int .i64 x2) (Ne.symm hne2)).trans ((heap_setCell_other w1 ⟨g, k * 2, none⟩ (w.heap.size + 1) (bv (x1 ^^^ m)) (Ne.symm hne2)).trans HRES.out)))
  have hbel := ((((HI.out.bel.setCell (p := ⟨g, k * 2, none⟩) (by simp; omega) (bv (x1 ^^^ m))).setCell (p := ⟨g, k * 2 + 1, none⟩) (by simp; omega) (.int .i64 x2)).setCell (p := ⟨w.heap.size + 1, 0, none⟩) (by simp) (.int .i64 dl)).setCell (p := ⟨w.heap.size + 1, 1, none⟩) (by simp) (.slice (some ⟨g, 0, none⟩) n c1)).drew
  generalize ((((w1.setCell ⟨g, k * 2, none⟩ (bv (x1 ^^^ m))).setCell ⟨g, k * 2 + 1, none⟩ (.int .i64 x2)).setCell ⟨w.heap.size + 1, 0, none⟩ (.int .i64 dl)).setCell ⟨w.heap.size + 1, 1, none⟩ (.slice (some ⟨g, 0, none⟩) n c1)) = w9 at hrow hheap hbel ⊢
  refine bodyPost_ret (results_cell2 rfl _ w9.drew (w.heap.size + 1) _ _ _ _ rfl ((congrArg (·[w.heap.size + 1]?) (heap_drew w9)).trans hheap) Try.underlying38 rfl (by kernel_rfl)) rfl ?_
  exact ⟨_, _, rfl, row_base (row_keep hrow fun _ _ => rfl) (by omega), hbel⟩

end Go.Proofs.Ytgiboekjjnmnnaa
