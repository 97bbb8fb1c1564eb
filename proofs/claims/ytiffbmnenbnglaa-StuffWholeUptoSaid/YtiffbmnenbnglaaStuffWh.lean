/-
  THE WALK OF StuffWhole.
-/
import Derived.Test.YtiffbmnenbnglaaStuffPts
import Derived.Test.YtiffbmnenbnglaaStuffLaws
import Derived.Test.YtiffbmnenbnglaaCopy
namespace Go.Proofs.Ytiffbmnenbnglaa
open Go.RowKit
attribute [local go_sem] Oper.semAt_some

theorem plc_of {P : Program} {w : World} {r : Reach} {base : Nat} {t e : TypeId} {A : Option Addr} {n c : Nat} (ht : P.underlying t = some (.slice e)) (h : Value.okWide P w r base t (.slice A n c)) : PlcN w.heap.size A c := by
  simp only [Value.okWide, ht, Cell.okWide] at h
  cases A with
  | none =>
    left
    simp only [Cell.ok, ht] at h
    split at h
    all_goals simp_all
  | some a =>
    right
    simp only [Cell.ok, ht] at h
    obtain ⟨_, _, _, hs, row, cells, hh, _⟩ := h
    obtain ⟨b, off, s⟩ := a
    simp only at hs
    subst hs
    refine ⟨b, off, ?_, rfl⟩
    simp only [World.shape?] at hh
    rcases Nat.lt_or_ge b w.heap.size with h1 | h1
    · exact h1
    · rw [Array.getElem?_eq_none h1] at hh
      simp at hh

/-- stuffed, each with a flag behind it -/
def frm (ls : List (List UInt8)) : List UInt8 := ls.flatMap fun q => Stf.stuff q ++ [0x7e]
theorem frm_snoc (ls : List (List UInt8)) (q : List UInt8) : frm (ls ++ [q]) = (frm ls ++ Stf.stuff q) ++ [0x7e] := by simp [frm]
theorem frm_len : ∀ ls : List (List UInt8), (frm ls).length ≤ 2 * ls.flatten.length + ls.length
  | [] => by simp [frm]
  | q :: ls => by
    have := frm_len ls
    have := (Stf.size_bounds q).2
    simp only [frm, List.flatMap_cons, List.length_append, List.flatten_cons, List.length_cons, List.length_nil] at *
    omega
theorem parts_frm : ∀ ls : List (List UInt8), parts (frm ls) = ls.map Stf.stuff ++ [[]]
  | [] => rfl
  | q :: ls => by
    have ih := parts_frm ls
    have e : frm (q :: ls) = Stf.stuff q ++ 0x7e :: frm ls := by simp [frm]
    rw [e, parts_clean _ _ (fun b hb e => Stf.clean q (e ▸ hb)), ih]
    rfl
theorem joinF_snoc : ∀ (ls : List (List UInt8)) (q : List UInt8), joinF (ls ++ [q]) = if ls = [] then q else (joinF ls ++ [0x7e]) ++ q
  | [], q => rfl
  | [a], q => by simp [joinF]
  | a :: b :: ls, q => by
    have ih := joinF_snoc (b :: ls) q
    have e1 : joinF (a :: ((b :: ls) ++ [q])) = a ++ 0x7e :: joinF ((b :: ls) ++ [q]) := joinF_cons _ _ (by simp)
    have e2 : joinF (a :: b :: ls) = a ++ 0x7e :: joinF (b :: ls) := joinF_cons _ _ (by simp)
    show joinF (a :: ((b :: ls) ++ [q])) = _
    rw [e1, ih, if_neg (by simp), if_neg (by simp), e2]
    simp
theorem joinF_take_len (xs : List (List UInt8)) (k : Nat) : (joinF (xs.take k)).length ≤ (joinF xs).length := by
  induction xs generalizing k with
  | nil => simp
  | cons q r ih =>
    cases k with
    | zero => simp [joinF]
    | succ k =>
      rw [List.take_succ_cons]
      by_cases h : r = []
      · subst h; simp
      · rw [joinF_cons _ _ h]
        by_cases h2 : r.take k = []
        · rw [h2]; simp [joinF]
        · rw [joinF_cons _ _ h2]
          have := ih k
          simp; omega

theorem mem_flat_len : ∀ (ls : List (List UInt8)) (q : List UInt8), q ∈ ls → q.length ≤ ls.flatten.length
  | a :: ls, q, h => by
    rcases List.mem_cons.1 h with rfl | h
    · simp
    · have := mem_flat_len ls q h; rw [List.flatten_cons, List.length_append]; omega
theorem frm_append (a b : List (List UInt8)) : frm (a ++ b) = frm a ++ frm b := by simp [frm]
theorem frm_take_len (ls : List (List UInt8)) (k : Nat) : (frm (ls.take k)).length ≤ (frm ls).length := by
  have := frm_append (ls.take k) (ls.drop k)
  rw [List.take_append_drop] at this
  rw [this]; simp
theorem Own.same {S : Nat → Prop} {w w' : World} {B : Nat} {e : TypeId} {size : Nat} {v : Value} {n : Nat} {xs : List Value} (h : w.ownsRow B e size v n xs) (hs : Same S w w') (hS : ∀ k, B ≤ k → k < w.heap.size → S k) : w'.ownsRow B e size v n xs :=
  row_keep h fun k e => hs.block k (h.lt k e).2 (hS k (h.lt k e).1 (h.lt k e).2)

/-- an append onto the row that stands in a box, its result laid back into the box -/
theorem boxed_app {w1 w2 : World} {ba D : Nat} {T e : TypeId} {v v2 : Value} {n n2 : Nat} {xs ys : List Value} (hB : Bx w1 ba T v) (hba : ba < D) (hown : w1.ownsRow D e 1 v n xs) (hg : w1.grownBy w2 v.ownBlock) (hown2 : w2.ownsRow D e 1 v2 n2 ys) :
    Bx w2 ba T v ∧ Bx (w2.setCell ⟨ba, 0, none⟩ v2) ba T v2 ∧ (w2.setCell ⟨ba, 0, none⟩ v2).ownsRow D e 1 v2 n2 ys ∧ Same (fun j => j ≠ ba ∧ (j < D ∨ v.ownBlock ≠ some j)) w1 (w2.setCell ⟨ba, 0, none⟩ v2) := by
  have h1 : Bx w2 ba T v := (hg.block ba hB.lt (fun e => by have := (hown.lt _ e.symm).1; omega)).trans hB
  have s1 : Same (fun j => v.ownBlock ≠ some j) w1 w2 := (Same.refl _ _).grown hg fun k hk h => h hk
  refine ⟨h1, h1.set _, ?_, (s1.mono fun j _ h => h.2.elim (fun h e => by have := (hown.lt j e).1; omega) id).setCell (by simp) _⟩
  exact row_keep hown2 fun k hk => by
    have := (hown2.lt k hk).1
    exact Below.heap_setCell _ _ _ _ (by simp; omega)

/-- the first loop, between two rounds -/
def WI (W0 : World) (D ba bn : Nat) (xs : List (List UInt8)) (k : Nat) (W : World) : Prop :=
  Same (fun j => j < D ∧ j ≠ ba ∧ j ≠ bn) W0 W ∧ (∃ v, Bx W ba 22 v ∧ OwnB W (D + 2) 5 v (joinF (xs.take k))) ∧ Bx W bn 3 (.int .i64 k)

/-- the second loop, between two rounds -/
def WJ (W2 : World) (D bp : Nat) (ys : List (List UInt8)) (k : Nat) (W : World) : Prop :=
  Same (fun j => j < D ∧ j ≠ bp) W2 W ∧ ∃ v, Bx W bp 35 v ∧ Lst W (D + 2) v (ys.take k)

set_option maxRecDepth 100000 in
set_option maxHeartbeats 4000000 in
theorem stuffwhole_law (A : Option Addr) (n c : Nat) (l : List UInt8) (A' : Option Addr) (m c' : Nat) (ls : List (List UInt8)) (w : World) (hR : Rd w A n c l) (hA : PlcN w.heap.size A c) (hn : n ≤ 1048576) (hL : RdL w A' m c' ls) (hm : ls.flatten.length + m ≤ 1048576) :
    Calls Try.prog 9 #[.slice A n c, .slice A' m c'] w fun e w' => e = .returned (.bool true) ∧ Below w.heap.size w w' := by
  have hpl := parts_len l
  have hll := hR.len
  have hpb := parts_bound l
  have hjp := join_parts l
  have HR := Lib.hid hR
  have HL := Lib.hid hll
  have HPL := Lib.hid hpl
  have HPB := Lib.hid hpb
  have HRL := Lib.hid hL
  have HA := Lib.hid hA
  have HM := Lib.hid hm
  clear hm
  obtain ⟨xs, hxs⟩ : ∃ xs, xs = parts l := ⟨_, rfl⟩
  rw [← hxs] at hjp
  have HX := Lib.hid hxs
  have HJP := Lib.hid hjp
  clear hR hll hpl hpb hL hA hxs hjp
  refine calls_of_marks Try.func9 rfl ?_
  simp only [Try.ntmps9, List.size_toArray, List.length_cons, List.length_nil, Nat.reduceAdd, Nat.reduceSub, Array.replicate_succ, Array.replicate_zero, List.push_toArray, List.append_toArray, List.nil_append, List.cons_append]
  go_upto_region 3 with fail
  obtain ⟨w0, hw0⟩ : ∃ w0, w0 = (w.alloc (.cells #[.slice none 0 0] 22)).alloc (.cells #[.int .i64 0] 3) := ⟨_, rfl⟩
  rw [← hw0]
  have z0 : w0.heap.size = w.heap.size + 2 := by rw [hw0]; simp
  have hBa : Bx w0 w.heap.size 22 (.slice none 0 0) := by
    rw [hw0]; exact (Bx.new w _ _).same (S := fun _ => True) ((Same.refl _ _).alloc _) trivial
  have hBn : Bx w0 (w.heap.size + 1) 3 (.int .i64 0) := by
    rw [hw0]; have := Bx.new (w.alloc (.cells #[.slice none 0 0] 22)) 3 (.int .i64 0); rwa [World.size_alloc] at this
  have hb0 : Below w.heap.size w w0 := by rw [hw0]; exact ((Below.refl _ _).alloc (Nat.le_refl _) _).alloc (by simp) _
  have hcall := parts_any A n c l w0 (HR.out.below hb0) (by
    rcases HA.out with h | ⟨b, off, h1, h2⟩
    · exact .inl h
    · exact .inr ⟨b, off, by omega, h2⟩) (by omega) (fun q hq => by have := HPB.out q hq; have := HL.out; omega)
  rw [← HX.out] at hcall
  clear hw0
  go_wp2_with fail
  refine hcall.mono ?_
  clear hcall
  rintro e w1 ⟨po, rfl, hseq, hb1⟩
  have kn : ∀ w, (binOp .eql 33 (.func (.func 20) #[] #[.pointer (some ⟨po, 0, none⟩)]) .nilFunc).run Try.prog w = .ok (.bool false) w := fun _ => by kernel_rfl
  have s1 : ∀ S, Same S w0 w1 := fun S => Same.of_below hb1 fun _ h _ => h
  have hz1 := hb1.size
  have hBa1 := hBa.same (s1 fun _ => True) trivial
  have hBn1 := hBn.same (s1 fun _ => True) trivial
  have HBel := Lib.hid (hb0.trans (hb1.mono (by omega)))
  have HSEQ := Lib.hid hseq
  clear s1 hBa hBn hb0 hb1 hseq
  go_wp2_with fail
  clear kn
  obtain ⟨D, hD⟩ : ∃ D, D = w1.heap.size := ⟨_, rfl⟩
  refine wp_rangeB rfl (fun _ _ => rfl) HSEQ.out (by simp) (fun _ _ => trivial) (by intro k hk; omega) (WI w1 D w.heap.size (w.heap.size + 1) xs) (fun _ _ => False) ?hI ?hIb ?h0 3 ?hbody ?hend
  case hI =>
    rintro k B C ⟨h1, ⟨v, hv, ho⟩, hc⟩ hs
    rw [← hD] at hs
    exact ⟨h1.trans (hs.mono fun j _ h => ⟨trivial, by omega, by omega⟩), ⟨v, hv.same hs ⟨trivial, by omega, by omega⟩, Own.same ho hs fun j h1 h2 => ⟨trivial, by omega, by omega⟩⟩, hc.same hs ⟨trivial, by omega, by omega⟩⟩
  case hIb => intro k B C h hs; exact h
  case h0 => exact ⟨Same.refl _ _, ⟨_, hBa1, World.ownsRow_nil _ _ _ _⟩, hBn1⟩
  case hbody =>
    rintro ly k q A2 c2 W - hz hq - ⟨Wq, ⟨h1, ⟨v, hv, ho⟩, hc⟩, hzq, hs, hsl⟩
    rw [← hD] at hs hzq hz ⊢
    simp only [List.setIfInBounds_toArray, List.set_cons_zero, List.set_cons_succ]
    have hzw := hs.size
    have hvb : ∀ j, v.ownBlock = some j → D + 2 ≤ j ∧ j < Wq.heap.size := fun j hj => ho.lt j hj
    have hv' := hv.same hs (by omega)
    have ho' := Own.same ho hs fun j _ _ => by omega
    have hc' := hc.same hs (by omega)
    have hqb : q.length ≤ 1048576 := by have := HPB.out q (HX.out ▸ List.mem_of_getElem? hq); have := HL.out; omega
    have hMb := joinF_take_len xs k
    rw [HJP.out, HL.out] at hMb
    have hkb : k ≤ 1048577 := by have := (List.getElem?_eq_some_iff.1 hq).1; have := HPL.out; have := HL.out; have := congrArg List.length HX.out; omega
    obtain ⟨y, hy⟩ : ∃ y, y = joinF (xs.take k) := ⟨_, rfl⟩
    rw [← hy] at ho' hMb
    have htk : xs.take (k + 1) = xs.take k ++ [q] := by rw [List.take_add_one, hq]; rfl
    have hyn : joinF (xs.take (k + 1)) = if k = 0 then q else (y ++ [0x7e]) ++ q := by
      rw [htk, joinF_snoc, ← hy]
      have : xs.take k = [] ↔ k = 0 := by
        have := (List.getElem?_eq_some_iff.1 hq).1
        rw [List.take_eq_nil_iff]
        constructor
        · rintro (h | h)
          · exact h
          · subst h; simp at this
        · exact .inl
      by_cases h : k = 0
      · rw [if_pos (this.2 h), if_pos h]
      · rw [if_neg (fun e => h (this.1 e)), if_neg h]
    have hy0 : k = 0 → y = [] := fun e => by rw [hy, e]; rfl
    have H1 := Lib.hid (h1.trans (hs.mono fun j _ h => by omega))
    have HS1 := Lib.hid hs
    have HV := Lib.hid hv'
    have HO := Lib.hid ho'
    have HC := Lib.hid hc'
    have HX := Lib.hid hsl
    have HQ := Lib.hid hq
    have HVB := Lib.hid hvb
    have HYN := Lib.hid hyn
    have HY0 := Lib.hid hy0
    have g1 := hv'.cell
    have g2 := hv'.frozen
    have g3 := hc'.cell
    have g4 := hc'.frozen
    clear h1 hs hv' ho' hc' hv ho hc hsl hq hvb hyn hy0 htk hy hBa1 hBn1
    by_cases hk0 : k = 0
    · have hd : decide (0 < k) = false := by simp; omega
      have HK0 := Lib.hid hk0
      clear hk0
      gi_wp2_with (first | ((with_reducible show wpListIn _ _ _ _ _ (⟨some 29, _, _, _, _, _⟩ :: _) _ _); refine wpListIn_app _ rfl elemB (.tmp 27) (.tmp 28) rfl rfl (HO.out) rfl (HX.out.src (bs_one q)) (y.length + q.length) rfl (by omega) (by first | omega | (simp; omega)) ?_; intro A8 c8 w8 hown hg _; obtain ⟨b1, b2, b3, b4⟩ := boxed_app (HV.out) (by omega) (HO.out) hg hown; have b5 := (HC.out).same b4 ⟨by omega, by omega⟩; have B28 := Lib.hid b2; have B38 := Lib.hid b3; have B48 := Lib.hid b4; have B58 := Lib.hid b5; have d18 := b1.cell; have d28 := b1.frozen; have d58 := b5.cell; have d68 := b5.frozen; have d78 := b2.cell; clear hown hg b1 b2 b3 b4 b5))
      have sF : Same (fun j => j ≠ w.heap.size + 1) (w8.setCell ⟨w.heap.size, 0, none⟩ (.slice A8 (y.length + q.length) c8)) ((w8.setCell ⟨w.heap.size, 0, none⟩ (.slice A8 (y.length + q.length) c8)).setCell ⟨w.heap.size + 1, 0, none⟩ (.int .i64 ((k : Int) + 1))) := (Same.refl _ _).setCell (by simp) _
      refine ⟨(B48.out.mono fun j _ h => by omega).trans (sF.mono fun j _ h => by omega), (H1.out.trans (B48.out.mono fun j _ h => by omega)).trans (sF.mono fun j _ h => by omega), ⟨_, B28.out.same sF (by omega), ?_⟩, B58.out.set _⟩
      refine OwnB.of (Own.same B38.out sF fun j _ _ => by omega) _ ?_
      rw [HYN.out, if_pos HK0.out, HY0.out HK0.out]
      rfl
    · have hd : decide (0 < k) = true := by simp; omega
      have HK0 := Lib.hid hk0
      clear hk0
      gi_wp2_with (first | ((with_reducible show wpListIn _ _ _ _ _ (⟨some 26, _, _, _, _, _⟩ :: _) _ _); refine wpListIn_app _ rfl elemB (.tmp 24) (.tmp 25) rfl rfl (HO.out.alloc _) rfl (Src.new' W _ rfl [_] _ 1 1 rfl (by simp [Value.oneCell'])) (y.length + 1) rfl (by omega) (by first | omega | (simp; omega)) ?_; intro A3 c3 w3 hown hg _; obtain ⟨b1, b2, b3, b4⟩ := boxed_app (HV.out.same (S := fun _ => True) ((Same.refl _ _).alloc _) trivial) (by omega) (HO.out.alloc _) hg hown; have b5 := (HC.out.same (S := fun _ => True) ((Same.refl _ _).alloc _) trivial).same b4 ⟨by omega, by omega⟩; have B23 := Lib.hid b2; have B33 := Lib.hid b3; have B43 := Lib.hid b4; have B53 := Lib.hid b5; have d13 := b1.cell; have d23 := b1.frozen; have d53 := b5.cell; have d63 := b5.frozen; have d73 := b2.cell; clear hown hg b1 b2 b3 b4 b5) | ((with_reducible show wpListIn _ _ _ _ _ (⟨some 29, _, _, _, _, _⟩ :: _) _ _); have y3 : W.heap.size + 1 ≤ (w3.setCell ⟨w.heap.size, 0, none⟩ (.slice A3 (y.length + 1) c3)).heap.size := (by (have h := B43.out.size; rwa [World.size_alloc] at h)); have X9 : Hid (Sl (w3.setCell ⟨w.heap.size, 0, none⟩ (.slice A3 (y.length + 1) c3)) Wq.heap.size 5 (.slice A2 q.length c2) q.length (bs q)) := HX.out.kept fun j hj => (B43.out.block j (by have := (HX.out.lt j hj).2; simp; omega) ⟨by have := (HX.out.lt j hj).1; omega, .inr fun e => by have := (HX.out.lt j hj).1; have := (HVB.out j e).2; omega⟩).trans (Below.heap_alloc _ _ _ (HX.out.lt j hj).2); refine wpListIn_app _ rfl elemB (.tmp 27) (.tmp 28) rfl rfl (B33.out) rfl (X9.out.src (bs_one q)) (y.length + 1 + q.length) rfl (by omega) (by first | omega | (simp; omega)) ?_; intro A8 c8 w8 hown hg _; obtain ⟨b1, b2, b3, b4⟩ := boxed_app (B23.out) (by omega) (B33.out) hg hown; have b5 := (B53.out).same b4 ⟨by omega, by omega⟩; have B28 := Lib.hid b2; have B38 := Lib.hid b3; have B48 := Lib.hid b4; have B58 := Lib.hid b5; have d18 := b1.cell; have d28 := b1.frozen; have d58 := b5.cell; have d68 := b5.frozen; have d78 := b2.cell; clear hown hg b1 b2 b3 b4 b5))
      have sA : Same (fun j => j ≠ w.heap.size ∧ j < D + 2) W (w3.setCell ⟨w.heap.size, 0, none⟩ (.slice A3 (y.length + 1) c3)) := ((Same.refl _ _).alloc _).trans (B43.out.mono fun j _ h => ⟨h.1, .inl h.2⟩)
      have sB : Same (fun j => j ≠ w.heap.size ∧ j < D + 2) W (w8.setCell ⟨w.heap.size, 0, none⟩ (.slice A8 (y.length + 1 + q.length) c8)) := sA.trans (B48.out.mono fun j _ h => ⟨h.1, .inl h.2⟩)
      have sF : Same (fun j => j ≠ w.heap.size + 1) (w8.setCell ⟨w.heap.size, 0, none⟩ (.slice A8 (y.length + 1 + q.length) c8)) ((w8.setCell ⟨w.heap.size, 0, none⟩ (.slice A8 (y.length + 1 + q.length) c8)).setCell ⟨w.heap.size + 1, 0, none⟩ (.int .i64 ((k : Int) + 1))) := (Same.refl _ _).setCell (by simp) _
      refine ⟨(sB.mono fun j _ h => by omega).trans (sF.mono fun j _ h => by omega), (H1.out.trans (sB.mono fun j _ h => by omega)).trans (sF.mono fun j _ h => by omega), ⟨_, B28.out.same sF (by omega), ?_⟩, B58.out.set _⟩
      refine OwnB.of (Own.same B38.out sF fun j _ _ => by omega) _ ?_
      rw [HYN.out, if_neg HK0.out, bs_append, bs_append]
      rfl
  case hend =>
    rintro W (⟨h1, ⟨v, hv, ho⟩, hc⟩ | ⟨_, _, h⟩) hK hz
    · rw [List.take_length, HJP.out] at ho
      rw [← hD] at hK hz ⊢
      obtain ⟨A5, c5, rfl, hr5, _⟩ := ho.shape (by have := HL.out; omega)
      rw [HL.out] at hr5 hv
      have hbw : Below w.heap.size w W := HBel.out.trans (h1.below (by omega) fun j hj => by omega)
      have hc1 := hr5.string (P := Try.prog) 22 9 5 Try.underlying22 Try.underlying5 Try.underlying9
      have hc2 := (HR.out.below hbw).string (P := Try.prog) 22 9 5 Try.underlying22 Try.underlying5 Try.underlying9
      have g1 := hv.cell
      have g3 := hc.cell
      have hx1 : 0 < xs.length := by obtain ⟨a, b, e⟩ := parts_ne l; rw [HX.out, e]; simp
      have hd1 : ((xs.length : Int) == 0) = false := by simp; intro e; subst e; simp at hx1
      have hd2 : (xs.length == 0) = false := by simp; intro e; subst e; simp at hx1
      have HBW := Lib.hid hbw
      have HK := Lib.hid hK
      have hz2 := h1.size
      clear h1 hv ho hc hK hr5 hbw hBa1 hBn1
      go_wp2_with fail
      have y1 : D ≤ w1.heap.size := by omega
      have y2 : w1.heap.size ≤ D := by omega
      have y3 : w0.heap.size ≤ w.heap.size + 2 := by omega
      have y4 : w.heap.size + 2 ≤ w0.heap.size := by omega
      clear g1 g3 hc1 hc2 hd1 hd2 hD z0
      have hfl := frm_len ls
      go_loopw [9, 10] (fun v i wr => ∃ k : Nat, i = .int .i64 k ∧ k ≤ m ∧ Hid (OwnB wr W.heap.size 5 v (frm (ls.take k)) ∧ Same (fun j => j < W.heap.size) W wr)) (fun _ i _ => m - (intOf i).toNat)
      case atStart => exact ⟨0, rfl, Nat.zero_le _, World.ownsRow_nil _ _ _ _, Same.refl _ _⟩
      case round =>
        obtain ⟨k, rfl, hk, ho, hs⟩ := hrel
        have hbr : Below w.heap.size w wr := HBW.out.trans (hs.below (by have := HBW.out.size; omega) fun j hj => by have := HBW.out.size; omega)
        by_cases hlt : k < m
        · obtain ⟨b, off, q, A6, n6, c6, rfl, hbl, hq, hcell, hr6⟩ := (HRL.out.below hbr).at' hlt
          have hql : n6 ≤ 1048576 := by
            have h1 := hr6.len
            have h2 := mem_flat_len ls q (List.mem_of_getElem? hq)
            have := HM.out
            omega
          have hsz := (Stf.size_bounds q).2
          have hsz' : Stf.size q ≤ 2097152 := by unfold Stf.size; have := hr6.len; omega
          have hft := frm_take_len ls k
          have hM := HM.out
          have htk : frm (ls.take (k + 1)) = (frm (ls.take k) ++ Stf.stuff q) ++ [0x7e] := by
            rw [List.take_add_one, hq]; exact frm_snoc _ _
          have hcall := stuff_any A6 n6 c6 q wr hr6 (by omega)
          obtain ⟨y, hy⟩ : ∃ y, y = frm (ls.take k) := ⟨_, rfl⟩
          rw [← hy] at ho hft htk
          have hyb : y.length ≤ 4194304 := by have := HRL.out.len; omega
          have HO := Lib.hid ho
          have HS := Lib.hid hs
          have HBR := Lib.hid hbr
          have HTK := Lib.hid htk
          clear ho hs hbr htk hy hq hr6 hsz hft
          obtain ⟨sz, hsze⟩ : ∃ sz, sz = Stf.size q := ⟨_, rfl⟩
          rw [← hsze] at hcall hsz'
          have HSZ := Lib.hid hsze
          clear hsze
          go_wp2_with fail
          refine hcall.mono ?_
          clear hcall
          rintro e w5 ⟨A7, c7, rfl, hown5, hb5⟩
          have hz5 := hb5.size
          have HO5 := Lib.hid (own_below HO.out hb5)
          have HX5 := Lib.hid (hown5.rd HSZ.out.symm (by omega))
          have HB5 := Lib.hid hb5
          clear hown5 hb5
          go_wp2_with (first
            | ((with_reducible show wpList _ _ _ (⟨some 53, _, _, _, _, _⟩ :: _) _ _); refine wpList_app _ rfl elemB (.tmp 47) (.tmp 52) rfl rfl HO5.out rfl (HX5.out.src) (y.length + sz) rfl (by omega) (by have := HS.out.size; omega) ?_; intro A8 c8 w8 hown8 hg8 _; have HO8 := Lib.hid hown8; have HB8 : Hid (Below W.heap.size w5 w8) := (below_app HO5.out hg8 (by have := HS.out.size; omega)); clear hown8 hg8)
            | ((with_reducible show wpList _ _ _ (⟨some 55, _, _, _, _, _⟩ :: _) _ _); refine wpList_app _ rfl elemB (.tmp 53) (.tmp 54) rfl rfl (HO8.out.alloc _) rfl (Src.new' w8 _ rfl [_] _ 1 1 rfl (by simp [Value.oneCell'])) (y.length + sz + 1) rfl (by omega) (by (have h1 := HS.out.size; have h2 := HB8.out.size; simp; omega)) ?_; intro A9 c9 w9 hown9 hg9 _; have HO9 := Lib.hid hown9; have HB9 : Hid (Below W.heap.size w8 w9) := (below_app' ((Below.refl _ _).alloc (by have h1 := HS.out.size; have h2 := HB8.out.size; omega) _) (HO8.out.alloc _) hg9 (Nat.le_refl _) (by (have h1 := HS.out.size; have h2 := HB8.out.size; simp; omega))); clear hown9 hg9))
          have h9 : OwnB w9 W.heap.size 5 (.slice A9 (y.length + sz + 1) c9) (frm (ls.take (k + 1))) := by
            rw [HTK.out]
            refine OwnB.of HO9.out _ ?_
            rw [bs_append, bs_append]; rfl
          have s9 : Same (fun j => j < W.heap.size) W w9 := HS.out.trans (Same.of_below (((HB5.out.mono HS.out.size).trans HB8.out).trans HB9.out) fun j _ h => h)
          go_roundw
          case rel => exact ⟨k + 1, by go_num, hlt, h9, s9⟩
          case measure => simp [intOf]; omega
        · obtain rfl : m = k := by omega
          have hlm := HRL.out.len
          rw [List.take_of_length_le (by omega)] at ho
          have hL4 : (frm ls).length ≤ 16777216 := by have := HM.out; omega
          obtain ⟨A7, c7, rfl, hr7, hp7⟩ := ho.shape (by omega)
          have hpb2 := parts_bound (frm ls)
          have hpf := parts_frm ls
          have hpl7 : PlcN wr.heap.size A7 c7 := by
            rcases hp7 with ⟨e1, e2⟩ | ⟨g, e1, e2, e3, _⟩
            · subst e1
              rcases ho.2 with ⟨hv, _⟩ | ⟨g, cap, cur, hv, _⟩
              · injection hv with _ _ h3
                exact .inl ⟨rfl, h3⟩
              · injection hv with h1; cases h1
            · exact .inr ⟨g, 0, e3, e1⟩
          obtain ⟨L, hLe⟩ : ∃ L, L = (frm ls).length := ⟨_, rfl⟩
          rw [← hLe] at hr7 hL4 hpb2 ⊢
          have z3 : (wr.alloc (.cells #[.slice none 0 0] 35)).heap.size = wr.heap.size + 1 := by simp
          have hcall := parts_any A7 L c7 (frm ls) (wr.alloc (.cells #[.slice none 0 0] 35)) (hr7.stays (Stays.alloc _ _)) (by
            rcases hpl7 with h | ⟨b, off, h1, h2⟩
            · exact .inl h
            · exact .inr ⟨b, off, by omega, h2⟩) hL4 (fun q hq => by have := hpb2 q hq; omega)
          obtain ⟨ys, hys⟩ : ∃ ys, ys = parts (frm ls) := ⟨_, rfl⟩
          rw [← hys] at hcall hpb2 hpf
          have HBR := Lib.hid hbr
          have HS := Lib.hid hs
          have HPF := Lib.hid hpf
          have HPB2 := Lib.hid hpb2
          clear ho hs hbr hr7 hp7 hpl7 hpb2 hpf hLe hys hlm z3
          have hBp : Bx (wr.alloc (.cells #[.slice none 0 0] 35)) wr.heap.size 35 (.slice none 0 0) := Bx.new _ _ _
          go_wp2_with fail
          refine hcall.mono ?_
          clear hcall
          rintro e w5 ⟨po5, rfl, hseq5, hb5⟩
          have kn : ∀ w, (binOp .eql 33 (.func (.func 20) #[] #[.pointer (some ⟨po5, 0, none⟩)]) .nilFunc).run Try.prog w = .ok (.bool false) w := fun _ => by kernel_rfl
          have hz5 := hb5.size
          rw [World.size_alloc] at hz5
          have hBp5 := hBp.same (S := fun _ => True) (Same.of_below hb5 fun _ h _ => h) trivial
          have hK5 : w5.heap[D]? = some (.deferred (some [])) := (hb5.block D (by rw [World.size_alloc]; have := HS.out.size; omega)).trans ((Below.heap_alloc _ _ _ (by have := HS.out.size; omega)).trans ((HS.out.block D (by omega) (by omega)).trans HK.out))
          have hB5 : Below w.heap.size w w5 := (HBR.out.alloc HBR.out.size _).trans (hb5.mono (by rw [World.size_alloc]; have := HBR.out.size; omega))
          have HSEQ5 := Lib.hid hseq5
          have HK5 := Lib.hid hK5
          have HB5 := Lib.hid hB5
          clear hseq5 hb5 hBp hK5 hB5
          go_wp2_with fail
          clear kn
          obtain ⟨E, hE⟩ : ∃ E, E = w5.heap.size := ⟨_, rfl⟩
          have hyl : ys.length ≤ 1048577 := by rw [HPF.out]; have := HM.out; have := HRL.out.len; simp; omega
          refine wp_rangeB rfl (fun _ _ => rfl) HSEQ5.out (by simp) (fun _ _ => trivial) (by intro k hk; omega) (WJ w5 E wr.heap.size ys) (fun _ _ => False) ?hI ?hIb ?h0 3 ?hbody ?hend
          case hI =>
            rintro k B C ⟨h1, v, hv, hl⟩ hs
            rw [← hE] at hs
            exact ⟨h1.trans (hs.mono fun j _ h => ⟨trivial, by omega, by omega⟩), v, hv.same hs ⟨trivial, by omega, by omega⟩, hl.keep fun j h1 h2 => hs.block j h2 ⟨trivial, by omega, by omega⟩⟩
          case hIb => intro k B C h hs; exact h
          case h0 => exact ⟨Same.refl _ _, _, hBp5, [], World.ownsRow_nil _ _ _ _, by simp⟩
          case hbody =>
            rintro ly k q A2 c2 W6 ⟨h1, v, hv, hl⟩ hz6 hq hsl -
            rw [← hE] at hz6 hsl ⊢
            simp only [List.setIfInBounds_toArray, List.set_cons_zero, List.set_cons_succ]
            have hk := (List.getElem?_eq_some_iff.1 hq).1
            have hkl : (ys.take k).length = k := by rw [List.length_take]; omega
            obtain ⟨zs, x1, x2⟩ := hl
            rw [hkl] at x1
            have X1 := Lib.hid x1
            have X2 := Lib.hid x2
            have HV := Lib.hid hv
            have HSL := Lib.hid hsl
            have H1 := Lib.hid h1
            have HQ := Lib.hid hq
            have HKL := Lib.hid hkl
            have bc := hv.cell
            have bf := hv.frozen
            have hkb : k ≤ 1048577 := by omega
            clear x1 x2 hv hsl h1 hq hkl hBp5
            gi_wp2_with (first
              | ((with_reducible show wpListIn _ _ _ _ _ (⟨some 65, _, _, _, _, _⟩ :: _) _ _); refine wpListIn_app _ rfl elemLL (.tmp 62) (.tmp 64) rfl rfl (X1.out.alloc _) rfl (Src.new' W6 _ rfl [_] _ 1 1 rfl (by simp [Value.oneCell'])) (k + 1) rfl (by omega) (by simp; omega) ?_; intro A3 c3 w3 hown3 hg3 _; have HO3 := Lib.hid hown3; have HG3 := Lib.hid hg3; clear hown3 hg3; have bx3 : Bx w3 wr.heap.size 35 v := (HG3.out.block wr.heap.size (by simp; omega) (fun e => by have := (X1.out.lt _ e.symm).1; omega)).trans ((HV.out.same (S := fun _ => True) ((Same.refl _ _).alloc _) trivial)); have bc3 := bx3.cell; have bf3 := bx3.frozen; have HV3 := Lib.hid bx3; clear bx3 bc bf))
            have hb1 : Below (E + 2) W6 (W6.alloc (.cells #[.slice A2 q.length c2] 22)) := (Below.refl _ _).alloc (by omega) _
            have hbw : Below (E + 2) W6 w3 := hb1.grown HG3.out (by simp; omega) fun j hj => (X1.out.lt j hj).1
            have ht : ys.take (k + 1) = ys.take k ++ [q] := by rw [List.take_add_one, HQ.out]; rfl
            have hl3 : Lst w3 (E + 2) (.slice A3 (k + 1) c3) (ys.take (k + 1)) := by
              rw [ht]
              have hbA : Below W6.heap.size W6 (W6.alloc (.cells #[.slice A2 q.length c2] 22)) := (Below.refl _ _).alloc (Nat.le_refl _) _
              refine Lst.snoc (w := W6.alloc (.cells #[.slice A2 q.length c2] 22)) (by rw [HKL.out]; exact own_below X1.out hbA) (fun j u hj => ?_) (HSL.out.kept fun i hi => hbA.block i (HSL.out.lt i hi).2) HG3.out (by rw [HKL.out]; exact HO3.out)
              obtain ⟨A', c', e, hs⟩ := X2.out j u hj
              exact ⟨A', c', e, hs.kept fun i hi => hbA.block i (hs.lt i hi).2⟩
            have sS : Same (fun j => ¬ j = wr.heap.size) w3 (w3.setCell ⟨wr.heap.size, 0, none⟩ (.slice A3 (k + 1) c3)) := (Same.refl _ _).setCell (by simp) _
            have sW : Same (fun j => j < E + 2 ∧ j ≠ wr.heap.size) W6 (w3.setCell ⟨wr.heap.size, 0, none⟩ (.slice A3 (k + 1) c3)) := (Same.of_below hbw fun j _ h => h.1).setCell (by simp) _
            exact ⟨sW.mono fun j _ h => by rw [World.size_alloc] at h; omega, H1.out.trans (sW.mono fun j _ h => by omega), _, HV3.out.set _, hl3.keep fun j h1 h2 => sS.block j h2 (by omega)⟩
          case hend =>
            rintro W6 (⟨h1, v, hv, hl⟩ | ⟨_, _, h⟩) hK6 hz6
            · rw [List.take_length] at hl
              rw [← hE] at hK6 hz6 ⊢
              have hyn : ys.length = m + 1 := by rw [HPF.out]; have := HRL.out.len; simp; omega
              obtain ⟨Ap, cp, rfl⟩ := hl.shape
              rw [hyn] at hv hl
              have HLast := hl.at_ hyn (k := m) (by omega)
              obtain ⟨gp, qe, Ae, ce, rfl, hqe, hce, _⟩ := HLast
              have hqe0 : qe = [] := by
                have hlm := HRL.out.len
                have : ys[m]? = some [] := by rw [HPF.out, List.getElem?_append_right (by simp; omega)]; simp [hlm]
                rw [this] at hqe
                injection hqe with hqe
                exact hqe.symm
              subst hqe0
              simp only [List.length_nil] at hce
              have g1 := hv.cell
              have y5 : E ≤ w5.heap.size := by omega
              have y6 : w5.heap.size ≤ E := by omega
              have HYN := Lib.hid hyn
              have H1 := Lib.hid h1
              have HV := Lib.hid hv
              have HLS := Lib.hid hl
              have HK6 := Lib.hid hK6
              have hmb : m ≤ 1048576 := by have := HM.out; omega
              have hbw6 : Below w.heap.size w W6 := HB5.out.trans (h1.below (by have := HB5.out.size; omega) fun j hj => by have h1 := HB5.out.size; have h2 := HBR.out.size; omega)
              have HBW6 := Lib.hid hbw6
              have hd3 : ((m : Int) + 1 != (m : Int) + 1) = false := by simp
              have hd4 : (((m + 1 : Nat) : Int) != (m : Int) + 1) = false := by simp
              clear h1 hv hl hK6 hqe hyn hE hbw6 hBp5
              go_wp2_with fail
              clear g1 hd3 hd4 hce
              obtain ⟨wo, rfl⟩ : ∃ wo : World, wo = wr := ⟨_, rfl⟩
              go_loopw [13] (fun i wr => ∃ k : Nat, i = .int .i64 k ∧ k ≤ m ∧ Hid (Below W6.heap.size W6 wr)) (fun i _ => m - (intOf i).toNat)
              case atStart => exact ⟨0, rfl, Nat.zero_le _, Below.refl _ _⟩
              case round =>
                obtain ⟨k, rfl, hk, hb⟩ := hrel
                have HB := Lib.hid hb
                have zb := HB.out.size
                have gv := (HV.out.same (S := fun _ => True) (Same.of_below HB.out fun _ h _ => h) trivial).cell
                clear hb
                by_cases hlt : k < m
                · have hbw := HBW6.out.trans (HB.out.mono HBW6.out.size)
                  obtain ⟨b3, off3, q, A8, n8, c8, rfl, hbl, hq, hcell, hr8⟩ := (HRL.out.below hbw).at' hlt
                  obtain ⟨gp', q', A9, c9, hgp, hq', hcell9, hsl9⟩ := (HLS.out.keep (w' := wr) fun j _ hj => HB.out.block j hj).at_ HYN.out (k := k) (by omega)
                  have hqq : q' = Stf.stuff q := by
                    rw [HPF.out, List.getElem?_append_left (by have := HRL.out.len; simp; omega), List.getElem?_map, hq] at hq'
                    injection hq' with hq'
                    exact hq'.symm
                  have e1 : gp = gp' := by injection hgp with hgp; injection hgp
                  subst e1 hqq
                  have hql : n8 ≤ 1048576 := by
                    have h1 := hr8.len
                    have h2 := mem_flat_len ls q (List.mem_of_getElem? hq)
                    have := HM.out
                    omega
                  have hsz := (Stf.size_bounds q).2
                  have hlen8 := hr8.len
                  have hcall := unstuff_any A9 (Stf.stuff q).length c9 (Stf.stuff q) wr (hsl9.rd (by omega)) (by omega)
                  obtain ⟨u1, u2, u3⟩ := Stf.of_stuff q
                  rw [u1, u2, u3] at hcall
                  rw [hlen8] at hcall
                  have HR8 := Lib.hid hr8
                  have HL8 := Lib.hid hlen8
                  clear hq' hgp hsl9 hr8 hlen8 u1 u2 u3 hq hbw hsz
                  go_wp2_with fail
                  refine hcall.mono ?_
                  clear hcall
                  rintro e w8 ⟨A10, c10, rfl, hown10, hb10⟩
                  have HXQ := Lib.hid (hown10.rd HL8.out (by omega))
                  have HXL := Lib.hid (HR8.out.below hb10)
                  have hbl8 : b3 < w8.heap.size := Nat.lt_of_lt_of_le hbl hb10.size
                  have hcell8 := (hb10.cell (p := ⟨b3, off3 + k, none⟩) hbl).trans hcell
                  have H10 := Lib.hid hb10
                  clear hown10 hb10 hcell hcell9 gv
                  go_wp2_with fail
                  refine Free.wp_seq (I := fun w' => Below w8.heap.size w8 w') (Gr := fun w1 w2 => Below w1.heap.size w1 w2) (by kernel_rfl) (by kernel_rfl) (Below.refl _ _).drew ?_
                  refine Free.Seq.val ?_ (fun _ => Below.refl _ _) (fun a w1 hI hp => ?_) ?_
                  rotate_left
                  · have e15 := hp.slotV 15 (by kernel_rfl) rfl; simp at e15
                    refine ⟨Free.want_none rfl, ?_⟩
                    clear hp
                    go_simp
                    rfl
                  refine Free.Seq.val ?_ (fun _ => Below.refl _ _) (fun a w1 hI hp => ?_) ?_
                  rotate_left
                  · have e95 := hp.backV 0 0 rfl rfl rfl rfl rfl
                    refine ⟨Free.want_none rfl, ?_⟩
                    clear hp
                    go_simp
                    rfl
                  refine Free.Seq.val ?_ (fun _ => Below.refl _ _) (fun a w1 hI hp => ?_) ?_
                  rotate_left
                  · have e96 := hp.backV 1 0 rfl rfl rfl rfl rfl
                    refine ⟨Free.want_none rfl, ?_⟩
                    clear hp
                    go_simp
                    rfl
                  refine Free.Seq.val ?_ (fun _ => Below.refl _ _) (fun a w1 hI hp => ?_) ?_
                  rotate_left
                  · have e97 := hp.backV 2 0 rfl rfl rfl rfl rfl; have e14 := hp.slotV 14 (by kernel_rfl) rfl; simp at e14
                    refine ⟨hp.want rfl rfl rfl e97, ?_⟩
                    clear hp
                    go_simp
                    rfl
                  refine Free.Seq.val ?_ (fun _ => Below.refl _ _) (fun a w1 hI hp => ?_) ?_
                  rotate_left
                  · have e97 := hp.backV 2 1 rfl rfl rfl rfl rfl; have e98 := hp.backV 3 0 rfl rfl rfl rfl rfl
                    have hc := (HXQ.out.below hI).string (P := Try.prog) 22 9 5 Try.underlying22 Try.underlying5 Try.underlying9
                    refine ⟨hp.want rfl rfl rfl e97, ?_⟩
                    clear hp
                    go_simp
                    rfl
                  refine Free.Seq.val ?_ (fun _ => Below.refl _ _) (fun a w1 hI hp => ?_) ?_
                  rotate_left
                  · have e97 := hp.backV 2 2 rfl rfl rfl rfl rfl; have e1 := hp.slotV 1 (by kernel_rfl) rfl; simp at e1
                    refine ⟨hp.want rfl rfl rfl e97, ?_⟩
                    clear hp
                    go_simp
                    rfl
                  refine Free.Seq.val ?_ (fun _ => Below.refl _ _) (fun a w1 hI hp => ?_) ?_
                  rotate_left
                  · have e97 := hp.backV 2 3 rfl rfl rfl rfl rfl; have e13 := hp.slotV 13 (by kernel_rfl) rfl; simp at e13
                    refine ⟨hp.want rfl rfl rfl e97, ?_⟩
                    clear hp
                    go_simp
                    rfl
                  refine Free.Seq.val ?_ (fun _ => Below.refl _ _) (fun a w1 hI hp => ?_) ?_
                  rotate_left
                  · have e97 := hp.backV 2 4 rfl rfl rfl rfl rfl; have e100 := hp.backV 5 1 rfl rfl rfl rfl rfl; have e101 := hp.backV 6 0 rfl rfl rfl rfl rfl
                    refine ⟨hp.want rfl rfl rfl e97, ?_⟩
                    clear hp
                    go_simp
                    rfl
                  refine Free.Seq.val ?_ (fun _ => Below.refl _ _) (fun a w1 hI hp => ?_) ?_
                  rotate_left
                  · have e97 := hp.backV 2 5 rfl rfl rfl rfl rfl; have e102 := hp.backV 7 0 rfl rfl rfl rfl rfl
                    have k8 := (hI.cell (p := ⟨b3, off3 + k, none⟩) hbl8).trans hcell8
                    refine ⟨hp.want rfl rfl rfl e97, ?_⟩
                    clear hp
                    go_simp
                    rfl
                  refine Free.Seq.val ?_ (fun _ => Below.refl _ _) (fun a w1 hI hp => ?_) ?_
                  rotate_left
                  · have e97 := hp.backV 2 6 rfl rfl rfl rfl rfl; have e103 := hp.backV 8 0 rfl rfl rfl rfl rfl
                    have hc := (HXL.out.below hI).string (P := Try.prog) 22 9 5 Try.underlying22 Try.underlying5 Try.underlying9
                    refine ⟨hp.want rfl rfl rfl e97, ?_⟩
                    clear hp
                    go_simp
                    rfl
                  refine Free.Seq.val ?_ (fun _ => Below.refl _ _) (fun a w1 hI hp => ?_) ?_
                  rotate_left
                  · have e97 := hp.backV 2 7 rfl rfl rfl rfl rfl; have e99 := hp.backV 4 5 rfl rfl rfl rfl rfl; have e104 := hp.backV 9 0 rfl rfl rfl rfl rfl
                    refine ⟨hp.want rfl rfl rfl e97, ?_⟩
                    clear hp
                    go_simp
                    rfl
                  refine Free.Seq.val ?_ (fun _ => Below.refl _ _) (fun a w1 hI hp => ?_) ?_
                  rotate_left
                  · have e97 := hp.backV 2 8 rfl rfl rfl rfl rfl; have e105 := hp.backV 10 0 rfl rfl rfl rfl rfl
                    refine ⟨Free.want_none rfl, ?_⟩
                    clear hp
                    go_simp
                    rfl
                  refine Free.Seq.done (by simp) (fun wz hIz => ?_)
                  simp only [List.reverse_cons, List.reverse_nil, List.nil_append, List.cons_append, Free.All, Free.eqF, forall_eq]
                  have HIZ := Lib.hid hIz
                  clear hIz
                  simp only [Free.putL, Act.put, List.setIfInBounds_toArray, List.set_cons_zero, List.set_cons_succ]
                  dsimp only [Exit.then]
                  have HBZ := Lib.hid (HB.out.trans ((H10.out.trans (HIZ.out.mono H10.out.size)).mono zb))
                  clear hcell8 hbl8 hbl
                  go_wp2_with fail
                  go_roundw
                  case rel => exact ⟨k + 1, by go_num, hlt, HBZ.out⟩
                  case measure => simp [intOf]; omega
                · obtain rfl : m = k := by omega
                  clear gv
                  go_wp2_with fail
                  refine (awake_any _).mono ?_
                  rintro e w9 ⟨rfl, hb9⟩
                  have hbA : Below W6.heap.size W6 w9 := HB.out.trans (hb9.mono zb)
                  have zs5 := HS.out.size
                  have zs6 := H1.out.size
                  have hk1 : w9.heap[E]? = some (.deferred (some [])) := (hbA.block E (by omega)).trans HK6.out
                  have hk2 : w9.heap[D]? = some (.deferred (some [])) := (hbA.block D (by omega)).trans ((H1.out.block D (by omega) ⟨by omega, by omega⟩).trans HK5.out)
                  have hbF : Below w.heap.size w w9 := HBW6.out.trans (hbA.mono HBW6.out.size)
                  have hzF := hbF.size
                  have HK1 := Lib.hid hk1
                  have HK2 := Lib.hid hk2
                  have HBF := Lib.hid hbF
                  clear hbA hk1 hk2 hbF hb9
                  go_wp2_with fail
                  refine marks_take HK1.out (marks_take ((World.putObj_heap_other (by omega)).trans HK2.out) (marks_end (results_tmp rfl _ _ _) ⟨rfl, ?_⟩))
                  exact HBF.out.trans ((((Same.refl (fun j => j < w.heap.size) w9).putObj (r := E) (by have := HBel.out.size; have := HB5.out.size; omega) (.deferred none)).putObj (r := D) (by have := HBel.out.size; omega) (.deferred none)).below (by omega) fun j hj => hj)
            · exact h.elim
    · exact h.elim
end Go.Proofs.Ytiffbmnenbnglaa
