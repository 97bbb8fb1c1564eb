/-
  WHAT Parts HANDS BACK: an iterator over the parts.
-/
import Derived.Test.YtiffbmnenbnglaaStuffPt1
import Derived.Test.YtiffbmnenbnglaaCells
import Derived.LoopNIn
import Derived.LoopIn
import Derived.OwnWalkIn
namespace Go.Proofs.Ytiffbmnenbnglaa
open Go.RowKit

theorem between_any (A : Option Addr) (n c : Nat) (w : World) : Calls Try.prog 19 #[.slice A n c] w fun e w' => e = .returned (.func (.func 21) #[] #[.pointer (some ⟨w.heap.size, 0, none⟩)]) ∧ w' = w.alloc (.cells #[.slice A n c] 22) := by
  go_enter Try.func19, Try.ntmps19
  go_wp2
  go_ret
  exact ⟨rfl, rfl⟩

theorem parts_bound : ∀ (l : List UInt8) (q : List UInt8), q ∈ parts l → q.length ≤ l.length
  | [], q, h => by simp [parts] at h; simp [h]
  | b :: l, q, h => by
    have ih := parts_bound l
    obtain ⟨a, r, e⟩ := parts_ne l
    unfold parts at h
    rw [e] at h ih
    split at h
    · rcases List.mem_cons.1 h with rfl | h
      · simp
      · have := ih q h; simp; omega
    · simp only [List.headD_cons, List.tail_cons] at h
      rcases List.mem_cons.1 h with rfl | h
      · have := ih a (by simp); simp; omega
      · have := ih q (by simp [h]); simp; omega
theorem Lst.base {w : World} {B B' : Nat} {v : Value} {ls : List (List UInt8)} (h : Lst w B v ls) (hB : B' ≤ B) : Lst w B' v ls := by
  obtain ⟨xs, h1, h2⟩ := h
  refine ⟨xs, ⟨h1.1, ?_⟩, fun j l hj => ?_⟩
  · rcases h1.2 with h | ⟨g, cap, cur, hv, hg, r⟩
    · exact .inl h
    · exact .inr ⟨g, cap, cur, hv, by omega, r⟩
  · obtain ⟨A, c, e, hs⟩ := h2 j l hj
    exact ⟨A, c, e, hs.base fun k hk => by have := (hs.lt k hk).1; omega⟩
theorem Lst.shape {w : World} {B : Nat} {v : Value} {ls : List (List UInt8)} (h : Lst w B v ls) : ∃ A c, v = .slice A ls.length c := by
  obtain ⟨xs, h1, _⟩ := h
  exact row_form h1

set_option maxRecDepth 100000 in
set_option maxHeartbeats 1000000 in
theorem parts_any (A : Option Addr) (n c : Nat) (l : List UInt8) (w : World) (hR : Rd w A n c l) (hA : PlcN w.heap.size A c) (hn : n ≤ 16777216) (hbd : ∀ q ∈ parts l, q.length ≤ 16777216) :
    Calls Try.prog 17 #[.slice A n c] w fun e w' => ∃ po, e = .returned (.func (.func 20) #[] #[.pointer (some ⟨po, 0, none⟩)]) ∧
      SeqOf Try.prog 20 #[.pointer (some ⟨po, 0, none⟩)] (fun _ => True) (fun k => w.heap.size ≤ k ∧ k < w'.heap.size) (parts l) w' ∧ Below w.heap.size w w' := by
  have HR := Lib.hid hR
  have HA := Lib.hid hA
  clear hR hA
  obtain ⟨xs, hxs⟩ : ∃ xs, xs = parts l := ⟨_, rfl⟩
  rw [← hxs] at hbd ⊢
  have HBD := Lib.hid hbd
  clear hbd
  have HX := Lib.hid hxs
  clear hxs
  refine calls_of_marks Try.func17 rfl ?_
  simp only [Try.ntmps17, List.size_toArray, List.length_cons, List.length_nil, Nat.reduceAdd, Nat.reduceSub, Array.replicate_succ, Array.replicate_zero, List.push_toArray, List.append_toArray, List.nil_append, List.cons_append]
  go_wp2_with fail
  refine (between_any A n c _).mono ?_
  rintro e w1 ⟨rfl, rfl⟩
  go_wp2_with fail
  obtain ⟨w0, hw0⟩ : ∃ w0, w0 = (w.alloc (.cells #[.slice none 0 0] 35)).alloc (.cells #[.slice A n c] 22) := ⟨_, rfl⟩
  rw [← hw0]
  have z0 : w0.heap.size = w.heap.size + 2 := by rw [hw0]; simp
  have hBo : Bx w0 w.heap.size 35 (.slice none 0 0) := by
    rw [hw0]; exact (Bx.new w _ _).same (S := fun _ => True) ((Same.refl _ _).alloc _) trivial
  have hBp : Bx w0 (w.heap.size + 1) 22 (.slice A n c) := by
    rw [hw0]; have := Bx.new (w.alloc (.cells #[.slice none 0 0] 35)) 22 (.slice A n c); rwa [World.size_alloc] at this
  have hb0 : Below w.heap.size w w0 := by rw [hw0]; exact ((Below.refl _ _).alloc (Nat.le_refl _) _).alloc (by simp) _
  have hseq := between1 w.heap.size (w.heap.size + 1) A n c l w0 hBp (HR.out.below hb0) HA.out hn (by omega)
  have hpl := parts_len l
  have hll := HR.out.len
  rw [← HX.out] at hseq hpl
  clear hw0 hBp
  refine wp_rangeSeq rfl (fun _ _ => rfl) hseq rfl (by intro k hk; omega) (by intro k hk; omega)
    (fun k W => (∃ v, Bx W w.heap.size 35 v ∧ Lst W (w0.heap.size + 2) v (xs.take k)) ∧ Below w.heap.size w W) (fun _ _ _ => False) ?hI ?hIx ?h0
    (fun v => { tmps := #[.slice A n c, undef, .nilFunc, .pointer (some ⟨w.heap.size, 0, none⟩), v, .slice A n c, .func (.func 21) #[] #[.pointer (some ⟨w.heap.size + 1, 0, none⟩)], v, undef, undef, undef, undef, undef], defers := [] })
    0 ?hassign ?hbody ?hdone ?hstop
  case hI =>
    rintro k A B ⟨⟨v, hv, hl⟩, hb⟩ hs
    exact ⟨⟨v, hv.same hs (by omega), hl.keep fun j h1 h2 => hs.block j h2 (by omega)⟩, hb.trans (hs.below hb.size (by intro j hj; omega))⟩
  case hIx => intro c k A B h; exact h.elim
  case h0 => exact ⟨⟨_, hBo, ⟨[], World.ownsRow_nil _ _ _ _, by simp⟩⟩, hb0⟩
  case hassign =>
    intro l v W K hK
    refine region_in rfl ?_
    go_wp2_with fail
    exact hK
  case hbody =>
    rintro ly k q A1 c1 W ⟨⟨v, hv, hl⟩, hb⟩ hz hq hsl _
    refine wpIn_block (region_in rfl ?_)
    have hk := (List.getElem?_eq_some_iff.1 hq).1
    have hkl : (xs.take k).length = k := by rw [List.length_take]; omega
    obtain ⟨ys, h1, h2⟩ := hl
    rw [hkl] at h1
    rw [z0] at h1 h2 hz hsl ⊢
    have H1 := Lib.hid h1
    have H2 := Lib.hid h2
    have HV := Lib.hid hv
    have HSL := Lib.hid hsl
    have HB := Lib.hid hb
    have HQ := Lib.hid hq
    have HKL := Lib.hid hkl
    have bc := hv.cell
    have bf := hv.frozen
    have bl := hv.lt
    have hkb : k ≤ 16777217 := by omega
    have hbz : w.heap.size < W.heap.size := by omega
    clear h1 h2 hv hsl hb hq hkl hpl hll hBo hb0 hseq
    go_wp2_with (first
      | ((with_reducible show wpList _ _ _ (⟨some 11, _, _, _, _, _⟩ :: _) _ _); refine wpList_app _ rfl elemLL (.tmp 8) (.tmp 10) rfl rfl (H1.out.alloc _) rfl (Src.new' W _ rfl [_] _ 1 1 rfl (by simp [Value.oneCell'])) (k + 1) rfl (by omega) (by simp; omega) ?_; intro A3 c3 w3 hown3 hg3 hat3; have HO3 := Lib.hid hown3; have HG3 := Lib.hid hg3; clear hown3 hg3 hat3; have bx3 : Bx w3 w.heap.size 35 v := (HG3.out.block w.heap.size (by simp; omega) (fun e => by have := (H1.out.lt _ e.symm).1; omega)).trans ((HV.out.same (S := fun _ => True) ((Same.refl _ _).alloc _) trivial)); have bc3 := bx3.cell; have bf3 := bx3.frozen; have HV3 := Lib.hid bx3; clear bx3 bc bf))
    have hb1 : Below (w.heap.size + 4) W (W.alloc (.cells #[.slice A1 q.length c1] 22)) := (Below.refl _ _).alloc (by omega) _
    have hbw : Below (w.heap.size + 4) W w3 := hb1.grown HG3.out (by simp; omega) fun j hj => (H1.out.lt j hj).1
    have ht : xs.take (k + 1) = xs.take k ++ [q] := by rw [List.take_add_one, HQ.out]; rfl
    have hl3 : Lst w3 (w.heap.size + 4) (.slice A3 (k + 1) c3) (xs.take (k + 1)) := by
      rw [ht]
      have hbA : Below W.heap.size W (W.alloc (.cells #[.slice A1 q.length c1] 22)) := (Below.refl _ _).alloc (Nat.le_refl _) _
      refine Lst.snoc (w := W.alloc (.cells #[.slice A1 q.length c1] 22)) (by rw [HKL.out]; exact own_below H1.out hbA) (fun j u hj => ?_) (HSL.out.kept fun i hi => hbA.block i (HSL.out.lt i hi).2) HG3.out (by rw [HKL.out]; exact HO3.out)
      obtain ⟨A', c', e, hs⟩ := H2.out j u hj
      exact ⟨A', c', e, hs.kept fun i hi => hbA.block i (hs.lt i hi).2⟩
    have sS : Same (fun j => ¬ j = w.heap.size) w3 (w3.setCell ⟨w.heap.size, 0, none⟩ (.slice A3 (k + 1) c3)) := (Same.refl _ _).setCell (by simp) _
    refine ⟨((Same.of_below hbw fun j _ h => by omega).setCell (by simp; omega) _), ⟨⟨_, HV3.out.set _, hl3.keep fun j h1 h2 => sS.block j h2 (by omega)⟩, ?_⟩⟩
    exact (HB.out.trans (hbw.mono (by omega))).setCell (p := ⟨w.heap.size, 0, none⟩) (Nat.le_refl _) _
  case hdone =>
    rintro W ⟨⟨v, hv, hl⟩, hb⟩ hK hz
    go_wp2_with fail
    refine marks_take hK (marks_end (results_tmp rfl _ _ _) ⟨w.heap.size, rfl, ?_, ?_⟩)
    · rw [List.take_length] at hl
      obtain ⟨A, c, rfl⟩ := hl.shape
      have sS : Same (fun j => ¬ j = w0.heap.size) W (W.putObj w0.heap.size (.deferred none)) := (Same.refl _ _).putObj (by simp) _
      have := parts1 w.heap.size _ w.heap.size A _ c xs _ (hv.same sS (by omega)) (Nat.le_refl _) ((hl.keep (w' := W.putObj w0.heap.size (.deferred none)) fun j h1 h2 => sS.block j h2 (by omega)).base (B' := w.heap.size) (by omega)) rfl rfl (by omega) HBD.out
      exact this
    · exact hb.trans ((Same.refl (fun j => ¬ j = w0.heap.size) W).putObj (by simp) _ |>.below hb.size (by intro j hj; omega))
  case hstop => intro c k W h; exact h.elim
end Go.Proofs.Ytiffbmnenbnglaa
