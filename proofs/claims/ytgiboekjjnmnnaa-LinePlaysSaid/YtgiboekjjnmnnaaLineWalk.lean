/-
  THE WALKS OF A LINE.
-/
import Derived.Test.YtgiboekjjnmnnaaKept
namespace Go.Proofs.Ytgiboekjjnmnnaa
open Go.RowKit

theorem elemI : ElemOf Try.prog 29 3 (.int .i64 0) 1 8 := ⟨Try.underlying29, by kernel_rfl, rfl, by decide, by decide⟩
def is (l : List Int) : List Value := l.map (Value.int .i64 ·)
theorem is_len (l : List Int) : (is l).length = l.length := by simp [is]
theorem is_one (l : List Int) : ∀ u ∈ is l, u.oneCell' = true := by
  intro u hu
  obtain ⟨b, _, rfl⟩ := List.mem_map.1 hu
  rfl

/-- a line: its cells, its bytes, when they come -/
structure Ln (w : World) (B g : Nat) (dl nw : Int) (n nd : Nat) (P D : Value) (p : List UInt8) (due : List Int) : Prop where
  low : B ≤ g
  obj : w.heap[g]? = some (.cells #[.int .i64 dl, .int .i64 nw, P, D] 53 (0, 0))
  hp : Sl w B 5 P n (bs p)
  hd : Sl w B 3 D nd (is due)

section
variable {w w' : World} {B g : Nat} {dl nw : Int} {n nd : Nat} {P D : Value} {p : List UInt8} {due : List Int}
theorem Ln.lt (h : Ln w B g dl nw n nd P D p due) : g < w.heap.size := (Array.getElem?_eq_some_iff.1 h.obj).1
theorem Ln.c0 (h : Ln w B g dl nw n nd P D p due) : w.cell? ⟨g, 0, none⟩ = some (.int .i64 dl) := by rw [cell_of_cells h.obj]; rfl
theorem Ln.c1 (h : Ln w B g dl nw n nd P D p due) : w.cell? ⟨g, 1, none⟩ = some (.int .i64 nw) := by rw [cell_of_cells h.obj]; rfl
theorem Ln.c2 (h : Ln w B g dl nw n nd P D p due) : w.cell? ⟨g, 2, none⟩ = some P := by rw [cell_of_cells h.obj]; rfl
theorem Ln.c3 (h : Ln w B g dl nw n nd P D p due) : w.cell? ⟨g, 3, none⟩ = some D := by rw [cell_of_cells h.obj]; rfl
theorem Ln.fr (h : Ln w B g dl nw n nd P D p due) (j : Nat) : w.frozen? ⟨g, j, none⟩ = false := frozen_of_row w g j _ _ h.obj
theorem Ln.pne (h : Ln w B g dl nw n nd P D p due) : P.ownBlock ≠ some g := by
  intro e
  obtain ⟨cur, hc⟩ := h.hp.type g e
  rw [h.obj] at hc
  injection hc with hc
  injection hc with _ hc
  exact absurd hc (by decide)
theorem Ln.dne (h : Ln w B g dl nw n nd P D p due) : D.ownBlock ≠ some g := by
  intro e
  obtain ⟨cur, hc⟩ := h.hd.type g e
  rw [h.obj] at hc
  injection hc with hc
  injection hc with _ hc
  exact absurd hc (by decide)
theorem Ln.pd (h : Ln w B g dl nw n nd P D p due) : ∀ k, P.ownBlock = some k → D.ownBlock ≠ some k := by
  intro k e e'
  obtain ⟨cur, hc⟩ := h.hp.type k e
  obtain ⟨cur', hc'⟩ := h.hd.type k e'
  rw [hc] at hc'
  injection hc' with hc'
  injection hc' with _ hc'
  exact absurd hc' (by decide)
theorem Ln.keep (h : Ln w B g dl nw n nd P D p due) (hk : ∀ k, k < w.heap.size → k = g ∨ P.ownBlock = some k ∨ D.ownBlock = some k → w'.heap[k]? = w.heap[k]?) : Ln w' B g dl nw n nd P D p due :=
  ⟨h.low, (hk g h.lt (.inl rfl)).trans h.obj, h.hp.kept fun k e => hk k (h.hp.lt k e).2 (.inr (.inl e)), h.hd.kept fun k e => hk k (h.hd.lt k e).2 (.inr (.inr e))⟩
theorem Ln.below (h : Ln w B g dl nw n nd P D p due) (hb : Below w.heap.size w w') : Ln w' B g dl nw n nd P D p due := h.keep fun k hk _ => hb.block k hk
theorem Ln.plen (h : Ln w B g dl nw n nd P D p due) : p.length = n := by rw [← bs_len]; exact h.hp.1
theorem Ln.dlen (h : Ln w B g dl nw n nd P D p due) : due.length = nd := by rw [← is_len]; exact h.hd.1
end

section
variable {w w2 : World} {B g : Nat} {dl nw : Int} {n nd : Nat} {P D : Value} {p : List UInt8} {due : List Int}
theorem Ln.grow (h : Ln w B g dl nw n nd P D p due) {row : Option Nat} (hg : w.grownBy w2 row) (hr : row ≠ some g) : w2.heap[g]? = some (.cells #[.int .i64 dl, .int .i64 nw, P, D] 53 (0, 0)) :=
  (hg.block g h.lt fun e => hr e.symm).trans h.obj
theorem Ln.putP (h : Ln w B g dl nw n nd P D p due) (hg : w.grownBy w2 P.ownBlock) {P' : Value} {n' : Nat} {p' : List UInt8} (hs : Sl w2 B 5 P' n' (bs p')) (ha : Anew w P P') : Ln (w2.setCell ⟨g, 2, none⟩ P') B g dl nw n' nd P' D p' due := by
  have hlt := h.lt
  refine ⟨h.low, ?_, ?_, ?_⟩
  · rw [heap_setCell_same w2 g 2 _ _ _ (h.grow hg h.pne)]; rfl
  · refine hs.kept fun k e => heap_setCell_other _ _ _ _ ?_
    intro e2
    have e2 : k = g := e2
    rw [e2] at e
    rcases ha _ e with e' | e'
    · exact h.pne e'
    · omega
  · refine h.hd.kept fun k e => (heap_setCell_other _ _ _ _ ?_).trans (hg.block k (h.hd.lt k e).2 ?_)
    · rintro rfl
      exact h.dne e
    · intro e'
      exact h.pd k e'.symm e
theorem Ln.putD (h : Ln w B g dl nw n nd P D p due) (hg : w.grownBy w2 D.ownBlock) {D' : Value} {n' : Nat} {due' : List Int} (hs : Sl w2 B 3 D' n' (is due')) (ha : Anew w D D') : Ln (w2.setCell ⟨g, 3, none⟩ D') B g dl nw n n' P D' p due' := by
  have hlt := h.lt
  refine ⟨h.low, ?_, ?_, ?_⟩
  · rw [heap_setCell_same w2 g 3 _ _ _ (h.grow hg h.dne)]; rfl
  · refine h.hp.kept fun k e => (heap_setCell_other _ _ _ _ ?_).trans (hg.block k (h.hp.lt k e).2 ?_)
    · rintro rfl
      exact h.pne e
    · intro e'
      exact h.pd k e e'.symm
  · refine hs.kept fun k e => heap_setCell_other _ _ _ _ ?_
    intro e2
    have e2 : k = g := e2
    rw [e2] at e
    rcases ha _ e with e' | e'
    · exact h.dne e'
    · omega
end

/-- what a line's blocks are -/
def LnS (g : Nat) (P D : Value) : Nat → Prop := fun k => k = g ∨ P.ownBlock = some k ∨ D.ownBlock = some k

set_option maxHeartbeats 1000000 in
theorem new_ok (w : World) (dl : Int) (h0 : 0 ≤ dl) (h1 : dl ≤ 64) :
    Calls Try.prog 7 #[.int .i64 dl] w fun e w' => e = .returned (.tuple #[.pointer (some ⟨w.heap.size, 0, none⟩), .int .i64 0]) ∧ Ln w' w.heap.size w.heap.size dl 0 0 0 (.slice none 0 0) (.slice none 0 0) [] [] ∧ Below w.heap.size w w' := by
  go_enter Try.func7, Try.ntmps7
  have t1 : decide (dl < 0) = false := by simp; omega
  have t2 : decide (64 < dl) = false := by simp; omega
  go_wp2
  go_ret2
  exact ⟨rfl, ⟨Nat.le_refl _, heap_alloc_new w _, Sl.nil _ _ _, Sl.nil _ _ _⟩, (Below.refl _ _).alloc (Nat.le_refl _) _⟩
set_option maxHeartbeats 1000000 in
theorem new_bad (w : World) (dl : Int) (h : dl < 0 ∨ 64 < dl) :
    Calls Try.prog 7 #[.int .i64 dl] w fun e w' => e = .returned (.tuple #[.pointer none, .int .i64 1]) ∧ w' = w := by
  go_enter Try.func7, Try.ntmps7
  by_cases h0 : dl < 0
  · have t1 : decide (dl < 0) = true := by simp; omega
    clear h h0
    go_wp2
    go_ret2
    exact ⟨rfl, rfl⟩
  · have t1 : decide (dl < 0) = false := by simp; omega
    have t2 : decide (64 < dl) = true := by simp; omega
    clear h h0
    go_wp2
    go_ret2
    exact ⟨rfl, rfl⟩
set_option maxHeartbeats 1000000 in
theorem len_any (w : World) {B g : Nat} {dl nw : Int} {n : Nat} {P D : Value} {p : List UInt8} {due : List Int} (h : Ln w B g dl nw n n P D p due) :
    Calls Try.prog 10 #[.pointer (some ⟨g, 0, none⟩)] w fun e w' => e = .returned (.int .i64 (n : Int)) ∧ w' = w := by
  obtain ⟨A, c, rfl, hc⟩ := h.hp.form
  have c2 := h.c2
  go_enter Try.func10, Try.ntmps10
  go_wp2
  go_ret
  exact ⟨rfl, rfl⟩
set_option maxHeartbeats 1000000 in
theorem tick_any (w : World) {B g : Nat} {dl nw : Int} {n : Nat} {P D : Value} {p : List UInt8} {due : List Int} (h : Ln w B g dl nw n n P D p due) (h0 : 0 ≤ nw) (h1 : nw ≤ 70368744177000) :
    Calls Try.prog 12 #[.pointer (some ⟨g, 0, none⟩)] w fun e w' => e = .returned (.int .i64 0) ∧ Ln w' B g dl (nw + 1) n n P D p due ∧ Kept (fun k => k = g) w w' := by
  have c1 := h.c1
  have f1 := h.fr 1
  go_enter Try.func12, Try.ntmps12
  go_wp2
  go_ret
  refine ⟨rfl, ⟨h.low, ?_, ?_, ?_⟩, (Kept.refl (fun k => k = g) w).setCell (p := ⟨g, 1, none⟩) (.inl rfl) _⟩
  · rw [heap_setCell_same w g 1 _ _ _ h.obj]; rfl
  · exact h.hp.kept fun k e => heap_setCell_other _ _ _ _ (by rintro rfl; exact h.pne e)
  · exact h.hd.kept fun k e => heap_setCell_other _ _ _ _ (by rintro rfl; exact h.dne e)
set_option maxHeartbeats 1000000 in
theorem bytes_any (w : World) {B g : Nat} {dl nw : Int} {n : Nat} {P D : Value} {p : List UInt8} {due : List Int} (h : Ln w B g dl nw n n P D p due) (hn : n ≤ 140737488355328) :
    Calls Try.prog 15 #[.pointer (some ⟨g, 0, none⟩)] w fun e w' => ∃ A c, e = .returned (.slice A n c) ∧ OwnB w' w.heap.size 5 (.slice A n c) p ∧ Below w.heap.size w w' := by
  have hl := h.plen
  obtain ⟨A, c, rfl, hc⟩ := h.hp.form
  have c2 := h.c2
  have glt := h.lt
  have hs : Src (w.alloc (.cells #[] 5)) A n 1 (bs p) := (h.hp.rd (by omega)).below ((Below.refl _ _).alloc (Nat.le_refl _) _) |>.src
  go_enter Try.func15, Try.ntmps15
  go_wp2_with (at_builtin; refine wpList_app _ rfl elemB (.tmp 5) (.tmp 9) rfl rfl (own_empty w w.heap.size _ _ 1 rfl (Nat.le_refl _)) rfl hs n (by omega) (by omega) (by simp) ?_; intro A1 c1 w2 hown2 hg2 hat2)
  go_wp2
  go_ret
  exact ⟨_, _, rfl, OwnB.of hown2 _ (by simp), ((Below.refl _ _).alloc (Nat.le_refl _) _).grown hg2 (by simp) (by intro k hk; simp [Value.ownBlock, Act.eval] at hk; omega)⟩

set_option maxHeartbeats 1000000 in
theorem put_any (w : World) {B g : Nat} {dl nw : Int} {n : Nat} {P D : Value} {p : List UInt8} {due : List Int} (h : Ln w B g dl nw n n P D p due) (hB : B ≤ w.heap.size) (h0 : 0 ≤ nw) (h1 : nw ≤ 70368744177000) (h2 : 0 ≤ dl) (h3 : dl ≤ 64)
    {A : Option Addr} {m c : Nat} {l : List UInt8} (hR : Rd w A m c l) (hn : n + m ≤ 65536) :
    Calls Try.prog 9 #[.pointer (some ⟨g, 0, none⟩), .slice A m c] w fun e w' => ∃ P' D', e = .returned (.int .i64 0) ∧ Ln w' B g dl nw (n + m) (n + m) P' D' (p ++ l) (due ++ List.replicate m (nw + dl)) ∧ Kept (LnS g P D) w w' ∧ Anew w P P' ∧ Anew w D D' := by
  have t1 : decide ((65536 : Int) - n < m) = false := by simp; omega
  obtain ⟨AP, cP, rfl, _⟩ := h.hp.form
  have c2 := h.c2
  have f2 := h.fr 2
  have glt := h.lt
  have Hh := Lib.hid h
  have hs := hR.src
  have hSl := h.hp
  have hml := Lib.hid hR.len
  clear h
  go_enter Try.func9, Try.ntmps9
  go_wp2_with (at_builtin; refine wpList_slapp _ rfl elemB (.tmp 20) (.tmp 21) rfl (v := .slice AP n cP) rfl hSl rfl hs (n + m) rfl (by omega) hB ?_; intro A1 d1 w2 hown2 hg2 hat2; (have O2 := Lib.hid (Hh.out.grow hg2 Hh.out.pne)); (have c2' : w2.cell? ⟨g, 2, none⟩ = some (.slice AP n cP) := by rw [cell_of_cells O2.out]; rfl); have f2' : w2.frozen? ⟨g, 2, none⟩ = false := frozen_of_row w2 g 2 _ _ O2.out)
  have H2 := Hh.out.putP (p' := p ++ l) hg2 (by rw [bs_append]; exact hown2) hat2
  have K2 : Kept (LnS g (.slice AP n cP) D) w (w2.setCell ⟨g, 2, none⟩ (.slice A1 (n + m) d1)) := ((Kept.refl _ w).grown hg2 (fun k e => .inl (.inr (.inl e)))).setCell (p := ⟨g, 2, none⟩) (.inl (.inl rfl)) _
  obtain ⟨w3, hw3⟩ : ∃ w3, w3 = w2.setCell ⟨g, 2, none⟩ (.slice A1 (n + m) d1) := ⟨_, rfl⟩
  rw [← hw3] at H2 K2
  have HH2 := Lib.hid H2
  have HK2 := Lib.hid K2
  have HA2 := Lib.hid hat2
  simp only [← hw3]
  clear H2 K2 hat2 hown2 hg2 O2 c2' f2' hw3 c2 f2
  go_loopw [27] (fun i wr => ∃ (k : Nat) (D' : Value), k ≤ m ∧ i = .int .i64 k ∧ Ln wr B g dl nw (n + m) (n + k) (.slice A1 (n + m) d1) D' (p ++ l) (due ++ List.replicate k (nw + dl)) ∧ Kept (LnS g (.slice AP n cP) D) w wr ∧ Anew w D D') (fun i _ => m - (intOf i).toNat)
  case atStart => exact ⟨0, D, Nat.zero_le _, rfl, by simpa using HH2.out, HK2.out, fun k e => .inl e⟩
  case round =>
    obtain ⟨k, D', hk, rfl, hL, hK, hA⟩ := hrel
    by_cases hlt : k < m
    · have t1 : decide ((k : Int) < m) = true := by simp; omega
      obtain ⟨AD, cD, rfl, _⟩ := hL.hd.form
      have c0 := hL.c0
      have c1 := hL.c1
      have c3 := hL.c3
      have f3 := hL.fr 3
      have glr := hL.lt
      have hSD := hL.hd
      have hBr : B ≤ wr.heap.size := Nat.le_of_lt (Nat.lt_of_le_of_lt hL.low hL.lt)
      have hwr : IntKind.i64.wrap (nw + dl) = nw + dl := IntWalk.i64_in _ ⟨by omega, by omega⟩
      have s1 := Lib.hid (show Sl (wr.alloc (Obj.cells #[Value.int .i64 (nw + dl)] 3)).drew B 3 (.slice AD (n + k) cD) (n + k) (is (due ++ List.replicate k (nw + dl))) from hSD.kept fun k e => Below.heap_alloc wr _ k (hSD.lt k e).2)
      have s2 := Lib.hid (show Src (wr.alloc (Obj.cells #[Value.int .i64 (nw + dl)] 3)).drew (some ⟨wr.heap.size, 0, none⟩) 1 1 [.int .i64 (nw + dl)] from (Src.new' wr _ rfl [.int .i64 (nw + dl)] 3 1 1 rfl (by simp [Value.oneCell'])).stays fun _ _ _ _ => rfl)
      have s3 := Lib.hid (show B ≤ (wr.alloc (Obj.cells #[Value.int .i64 (nw + dl)] 3)).drew.heap.size by rw [heap_drew]; simp; omega)
      have s0 := Lib.hid (show Ln (wr.alloc (Obj.cells #[Value.int .i64 (nw + dl)] 3)).drew B g dl nw (n + m) (n + k) (.slice A1 (n + m) d1) (.slice AD (n + k) cD) (p ++ l) (due ++ List.replicate k (nw + dl)) from hL.below (((Below.refl _ _).alloc (Nat.le_refl _) _).drew))
      have s4 := Lib.hid (show w.heap.size ≤ (wr.alloc (Obj.cells #[Value.int .i64 (nw + dl)] 3)).drew.heap.size by rw [heap_drew]; have := hK.size; simp; omega)
      have HKK := Lib.hid hK
      have HAA := Lib.hid hA
      clear hL hK hA hSD hBr
      go_wp2_with fail
      go_region_law (((apply step_slapp (hE := elemI) (s := .tmp 33) (x := .tmp 43) (v := .slice AD (n + k) cD) (hown := s1.out) (hs := s2.out) (N := n + k + 1) (hB := s3.out)) <;> first | rfl | omega | skip); intro A2 d2 w4 hown4 hg4 hat4; (have O4 := Lib.hid (s0.out.grow hg4 s0.out.dne)); (have c3' : w4.cell? ⟨g, 3, none⟩ = some (.slice AD (n + k) cD) := by rw [cell_of_cells O4.out]; rfl); have f3' : w4.frozen? ⟨g, 3, none⟩ = false := frozen_of_row w4 g 3 _ _ O4.out)
      all_goals
        have H5 := Lib.hid (s0.out.putD (due' := due ++ List.replicate (k + 1) (nw + dl)) hg4 (by rw [List.replicate_succ', ← List.append_assoc]; simpa [is] using hown4) hat4)
        have K5 := Lib.hid ((((HKK.out.alloc (Obj.cells #[Value.int .i64 (nw + dl)] 3)).drew.grown hg4 (fun i e => (HAA.out i e).imp (fun h => .inr (.inr h)) id))).setCell (p := ⟨g, 3, none⟩) (.inl (.inl rfl)) (.slice A2 (n + k + 1) d2))
        have A5 := Lib.hid (HAA.out.trans hat4 s4.out)
        clear hown4 hg4 hat4 O4 c3' f3' s0 s1 s2 s3 HKK HAA c0 c1 c3 f3
        go_wp2
        refine ⟨⟨k + 1, _, by omega, by go_num, H5.out, K5.out, A5.out⟩, ?_⟩
        simp [intOf]
        omega
    · obtain rfl : m = k := by omega
      have HL := Lib.hid hL
      have HKK := Lib.hid hK
      have HAA := Lib.hid hA
      clear hL hK hA
      go_wp2
      go_ret
      exact ⟨_, _, rfl, HL.out, HKK.out, HA2.out, HAA.out⟩

end Go.Proofs.Ytgiboekjjnmnnaa
