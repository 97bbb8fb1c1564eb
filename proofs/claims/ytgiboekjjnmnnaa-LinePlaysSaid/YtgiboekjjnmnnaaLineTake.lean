/-
  THE WALK OF Line.Take.
-/
import Derived.Test.YtgiboekjjnmnnaaLineWalk
import Derived.BigRegion
namespace Go.Proofs.Ytgiboekjjnmnnaa
open Go.RowKit


theorem Sl.cut {w : World} {B : Nat} {e : TypeId} {A : Option Addr} {n c : Nat} {xs : List Value} (h : Sl w B e (.slice A n c) n xs) {k : Nat} (hk : k ≤ n) : Sl w B e (.slice (Option.map (fun x => x.add k) A) (n - k) (n - k)) (n - k) (xs.drop k) := by
  refine ⟨by rw [List.length_drop, h.1], ?_⟩
  rcases h.2 with ⟨hv, h0⟩ | ⟨g, off, cap, cur, hv, hb, hg, hc, hm, hs, ht⟩
  · injection hv with h1 h2 h3
    subst h1 h0
    exact .inl ⟨by simp, by simp⟩
  · injection hv with h1 h2 h3
    subst h1 h3
    refine .inr ⟨g, off + k, n - k, cur, by rw [Option.map_some, add_none], hb, hg, Nat.le_refl _, by omega, by omega, ?_⟩
    rw [← ht, List.drop_take, List.drop_drop]
theorem Sl.cut' {w : World} {B : Nat} {e : TypeId} {g off n c : Nat} {xs : List Value} (h : Sl w B e (.slice (some ⟨g, off, none⟩) n c) n xs) {k : Nat} (hk : k ≤ n) : Sl w B e (.slice (some ⟨g, off + k, none⟩) (n - k) (n - k)) (n - k) (xs.drop k) := by
  have := h.cut hk
  rwa [Option.map_some, add_none] at this
theorem Sl.end {w : World} {B : Nat} {e : TypeId} {A : Option Addr} {n c : Nat} {xs : List Value} (h : Sl w B e (.slice A n c) n xs) {k : Nat} (hk : n = k) : Sl w B e (.slice A 0 0) 0 (xs.drop k) := by
  subst hk
  refine ⟨by rw [List.length_drop, h.1, Nat.sub_self], ?_⟩
  rcases h.2 with ⟨hv, h0⟩ | ⟨g, off, cap, cur, hv, hb, hg, hc, hm, hs, ht⟩
  · injection hv with h1 h2 h3
    subst h1
    exact .inl ⟨rfl, rfl⟩
  · injection hv with h1 h2 h3
    subst h1
    refine .inr ⟨g, off, 0, cur, rfl, hb, hg, Nat.le_refl _, by omega, by omega, ?_⟩
    rw [List.take_zero, List.drop_of_length_le (by rw [h.1]; exact Nat.le_refl _)]
theorem Anew.cut (w : World) (A : Option Addr) (n c k n' c' : Nat) : Anew w (.slice A n c) (.slice (Option.map (fun x => x.add k) A) n' c') := by
  intro i h
  left
  cases A with
  | none => cases h
  | some a =>
    simp only [Option.map_some, Value.ownBlock, Option.some.injEq] at h ⊢
    rw [← h]
    unfold Addr.add
    split <;> rfl
theorem Anew.cut' (w : World) (g off n c off' n' c' : Nat) : Anew w (.slice (some ⟨g, off, none⟩) n c) (.slice (some ⟨g, off', none⟩) n' c') := fun _ h => .inl h
theorem Anew.end (w : World) (A : Option Addr) (n c n' c' : Nat) : Anew w (.slice A n c) (.slice A n' c') := by
  intro i h
  left
  cases A with
  | none => cases h
  | some a => exact h
theorem Ln.set23 {w : World} {B g : Nat} {dl nw : Int} {n nd n' nd' : Nat} {P D P' D' : Value} {p p' : List UInt8} {due due' : List Int} (h : Ln w B g dl nw n nd P D p due) (hp : Sl w B 5 P' n' (bs p')) (hd : Sl w B 3 D' nd' (is due')) :
    Ln ((w.setCell ⟨g, 2, none⟩ P').setCell ⟨g, 3, none⟩ D') B g dl nw n' nd' P' D' p' due' := by
  have hne : ∀ k e cur, e ≠ 53 → w.heap[k]? = some (.cells cur e (0, 0)) → k ≠ g := by
    rintro k e cur he hc rfl
    rw [h.obj] at hc
    injection hc with hc
    injection hc with _ hc
    exact he hc.symm
  refine ⟨h.low, ?_, ?_, ?_⟩
  · rw [heap_setCell_same _ g 3 _ _ _ (heap_setCell_same _ g 2 _ _ _ h.obj)]; rfl
  · refine hp.kept fun k e => ?_
    obtain ⟨cur, hc⟩ := hp.type k e
    have := hne k _ cur (by decide) hc
    rw [heap_setCell_other _ _ _ _ this, heap_setCell_other _ _ _ _ this]
  · refine hd.kept fun k e => ?_
    obtain ⟨cur, hc⟩ := hd.type k e
    have := hne k _ cur (by decide) hc
    rw [heap_setCell_other _ _ _ _ this, heap_setCell_other _ _ _ _ this]
theorem bs_drop (l : List UInt8) (k : Nat) : bs (l.drop k) = (bs l).drop k := by simp [bs, List.map_drop]
theorem is_drop (l : List Int) (k : Nat) : is (l.drop k) = (is l).drop k := by simp [is, List.map_drop]

set_option maxHeartbeats 2000000 in
theorem take_any (w : World) {B g : Nat} {dl nw : Int} {n : Nat} {P D : Value} {p : List UInt8} {due : List Int} (h : Ln w B g dl nw n n P D p due) (hn : n ≤ 65536)
    (k : Nat) (hk : k ≤ n) (h1 : ∀ j x, j < k → due[j]? = some x → x ≤ nw) (h2 : ∀ x, due[k]? = some x → nw < x) :
    Calls Try.prog 11 #[.pointer (some ⟨g, 0, none⟩)] w fun e w' => ∃ A c P' D', e = .returned (.slice A k c) ∧ OwnB w' w.heap.size 5 (.slice A k c) (p.take k) ∧ Ln w' B g dl nw (n - k) (n - k) P' D' (p.drop k) (due.drop k) ∧ Kept (fun i => i = g) w w' ∧ Anew w P P' ∧ Anew w D D' := by
  have hdl := Lib.hid h.dlen
  have HL0 := Lib.hid h
  have H1 := Lib.hid h1
  have H2 := Lib.hid h2
  obtain ⟨AP, cP, rfl, _⟩ := h.hp.form
  obtain ⟨AD, cD, rfl, _⟩ := h.hd.form
  clear h1 h2 h
  go_enter Try.func11, Try.ntmps11
  go_wp2_with fail
  go_loopw [3] (fun i wr => ∃ (j : Nat), j ≤ k ∧ i = .int .i64 j ∧ Ln wr B g dl nw n n (.slice AP n cP) (.slice AD n cD) p due ∧ Below w.heap.size w wr) (fun i _ => n - (intOf i).toNat)
  case atStart => exact ⟨0, Nat.zero_le _, rfl, HL0.out, Below.refl _ _⟩
  case round =>
    obtain ⟨j, hj, rfl, hL, hb⟩ := hrel
    have c1 := hL.c1
    have c2 := hL.c2
    have c3 := hL.c3
    have glr := hL.lt
    by_cases hlt : j < k
    · have hjn : j < n := by omega
      obtain ⟨gd, off, rfl, hBd, hgd, hcell⟩ := hL.hd.cell (by omega)
      have hx : due[j]? = some (due[j]'(by rw [hdl.out]; omega)) := List.getElem?_eq_getElem _
      obtain ⟨x, hx'⟩ : ∃ x, x = due[j]'(by rw [hdl.out]; omega) := ⟨_, rfl⟩
      rw [← hx'] at hx
      have hc := hcell j (.int .i64 x) (by simp [is, hx])
      have t2 : decide (x ≤ nw) = true := by have := H1.out j x hlt hx; simpa using this
      have HL := Lib.hid hL
      have HB := Lib.hid hb
      clear hL hb hcell hx hx'
      go_wp2_with fail
      refine Free.wp_seq (I := fun w' => Below wr.heap.size wr w') (Gr := fun w1 w2 => Below w1.heap.size w1 w2) (by kernel_rfl) (by kernel_rfl) (Below.refl _ _).drew ?_
      refine Free.Seq.val ?_ (fun _ => Below.refl _ _) (fun a w1 hI hp => ?_) ?_
      rotate_left
      · have e3 := hp.slotV 3 (by kernel_rfl) rfl; simp at e3
        refine ⟨Free.want_none rfl, ?_⟩
        clear hp
        go_simp
        rfl
      refine Free.Seq.val ?_ (fun _ => Below.refl _ _) (fun a w1 hI hp => ?_) ?_
      rotate_left
      · have e0 := hp.slotV 0 (by kernel_rfl) rfl; simp at e0
        refine ⟨Free.want_none rfl, ?_⟩
        clear hp
        go_simp
        rfl
      refine Free.Seq.val ?_ (fun _ => Below.refl _ _) (fun a w1 hI hp => ?_) ?_
      rotate_left
      · have e8 := hp.backV 1 0 rfl rfl rfl rfl rfl
        refine ⟨Free.want_none rfl, ?_⟩
        clear hp
        go_simp
        rfl
      refine Free.Seq.val ?_ (fun _ => Below.refl _ _) (fun a w1 hI hp => ?_) ?_
      rotate_left
      · have e9 := hp.backV 2 0 rfl rfl rfl rfl rfl
        refine ⟨Free.want_none rfl, ?_⟩
        clear hp
        go_simp
        rfl
      refine Free.Seq.val ?_ (fun _ => Below.refl _ _) (fun a w1 hI hp => ?_) ?_
      rotate_left
      · have e10 := hp.backV 3 0 rfl rfl rfl rfl rfl
        have k2 := (hI.cell (p := ⟨g, 2, none⟩) glr).trans c2
        refine ⟨Free.want_none rfl, ?_⟩
        clear hp
        go_simp
        rfl
      refine Free.Seq.val ?_ (fun _ => Below.refl _ _) (fun a w1 hI hp => ?_) ?_
      rotate_left
      · have e11 := hp.backV 4 0 rfl rfl rfl rfl rfl
        refine ⟨Free.want_none rfl, ?_⟩
        clear hp
        go_simp
        rfl
      refine Free.Seq.val ?_ (fun _ => Below.refl _ _) (fun a w1 hI hp => ?_) ?_
      rotate_left
      · have e7 := hp.backV 0 5 rfl rfl rfl rfl rfl; have e12 := hp.backV 5 0 rfl rfl rfl rfl rfl
        refine ⟨Free.want_none rfl, ?_⟩
        clear hp
        go_simp
        rfl
      refine Free.Seq.val ?_ (fun _ => Below.refl _ _) (fun a w1 hI hp => ?_) ?_
      rotate_left
      · have e13 := hp.backV 6 0 rfl rfl rfl rfl rfl
        refine ⟨Free.want_none rfl, ?_⟩
        clear hp
        go_simp
        rfl
      refine Free.Seq.val ?_ (fun _ => Below.refl _ _) (fun a w1 hI hp => ?_) ?_
      rotate_left
      · have e14 := hp.backV 7 0 rfl rfl rfl rfl rfl; have e0 := hp.slotV 0 (by kernel_rfl) rfl; simp at e0
        refine ⟨hp.want rfl rfl rfl e14, ?_⟩
        clear hp
        go_simp
        rfl
      refine Free.Seq.val ?_ (fun _ => Below.refl _ _) (fun a w1 hI hp => ?_) ?_
      rotate_left
      · have e14 := hp.backV 7 1 rfl rfl rfl rfl rfl; have e15 := hp.backV 8 0 rfl rfl rfl rfl rfl
        refine ⟨hp.want rfl rfl rfl e14, ?_⟩
        clear hp
        go_simp
        rfl
      refine Free.Seq.val ?_ (fun _ => Below.refl _ _) (fun a w1 hI hp => ?_) ?_
      rotate_left
      · have e14 := hp.backV 7 2 rfl rfl rfl rfl rfl; have e16 := hp.backV 9 0 rfl rfl rfl rfl rfl
        refine ⟨hp.want rfl rfl rfl e14, ?_⟩
        clear hp
        go_simp
        rfl
      refine Free.Seq.val ?_ (fun _ => Below.refl _ _) (fun a w1 hI hp => ?_) ?_
      rotate_left
      · have e14 := hp.backV 7 3 rfl rfl rfl rfl rfl; have e17 := hp.backV 10 0 rfl rfl rfl rfl rfl
        have k3 := (hI.cell (p := ⟨g, 3, none⟩) glr).trans c3
        refine ⟨hp.want rfl rfl rfl e14, ?_⟩
        clear hp
        go_simp
        rfl
      refine Free.Seq.val ?_ (fun _ => Below.refl _ _) (fun a w1 hI hp => ?_) ?_
      rotate_left
      · have e14 := hp.backV 7 4 rfl rfl rfl rfl rfl; have e3 := hp.slotV 3 (by kernel_rfl) rfl; simp at e3
        refine ⟨hp.want rfl rfl rfl e14, ?_⟩
        clear hp
        go_simp
        rfl
      refine Free.Seq.val ?_ (fun _ => Below.refl _ _) (fun a w1 hI hp => ?_) ?_
      rotate_left
      · have e14 := hp.backV 7 5 rfl rfl rfl rfl rfl; have e18 := hp.backV 11 1 rfl rfl rfl rfl rfl; have e19 := hp.backV 12 0 rfl rfl rfl rfl rfl
        refine ⟨hp.want rfl rfl rfl e14, ?_⟩
        clear hp
        go_simp
        rfl
      refine Free.Seq.val ?_ (fun _ => Below.refl _ _) (fun a w1 hI hp => ?_) ?_
      rotate_left
      · have e14 := hp.backV 7 6 rfl rfl rfl rfl rfl; have e20 := hp.backV 13 0 rfl rfl rfl rfl rfl
        have k9 := (hI.cell (p := ⟨gd, off + j, none⟩) hgd).trans hc
        refine ⟨hp.want rfl rfl rfl e14, ?_⟩
        clear hp
        go_simp
        rfl
      refine Free.Seq.val ?_ (fun _ => Below.refl _ _) (fun a w1 hI hp => ?_) ?_
      rotate_left
      · have e14 := hp.backV 7 7 rfl rfl rfl rfl rfl; have e0 := hp.slotV 0 (by kernel_rfl) rfl; simp at e0
        refine ⟨hp.want rfl rfl rfl e14, ?_⟩
        clear hp
        go_simp
        rfl
      refine Free.Seq.val ?_ (fun _ => Below.refl _ _) (fun a w1 hI hp => ?_) ?_
      rotate_left
      · have e14 := hp.backV 7 8 rfl rfl rfl rfl rfl; have e22 := hp.backV 15 0 rfl rfl rfl rfl rfl
        refine ⟨hp.want rfl rfl rfl e14, ?_⟩
        clear hp
        go_simp
        rfl
      refine Free.Seq.val ?_ (fun _ => Below.refl _ _) (fun a w1 hI hp => ?_) ?_
      rotate_left
      · have e14 := hp.backV 7 9 rfl rfl rfl rfl rfl; have e23 := hp.backV 16 0 rfl rfl rfl rfl rfl
        refine ⟨hp.want rfl rfl rfl e14, ?_⟩
        clear hp
        go_simp
        rfl
      refine Free.Seq.val ?_ (fun _ => Below.refl _ _) (fun a w1 hI hp => ?_) ?_
      rotate_left
      · have e14 := hp.backV 7 10 rfl rfl rfl rfl rfl; have e24 := hp.backV 17 0 rfl rfl rfl rfl rfl
        have k1 := (hI.cell (p := ⟨g, 1, none⟩) glr).trans c1
        refine ⟨hp.want rfl rfl rfl e14, ?_⟩
        clear hp
        go_simp
        rfl
      refine Free.Seq.val ?_ (fun _ => Below.refl _ _) (fun a w1 hI hp => ?_) ?_
      rotate_left
      · have e14 := hp.backV 7 11 rfl rfl rfl rfl rfl; have e21 := hp.backV 14 4 rfl rfl rfl rfl rfl; have e25 := hp.backV 18 0 rfl rfl rfl rfl rfl
        refine ⟨hp.want rfl rfl rfl e14, ?_⟩
        clear hp
        go_simp
        rfl
      refine Free.Seq.val ?_ (fun _ => Below.refl _ _) (fun a w1 hI hp => ?_) ?_
      rotate_left
      · have e14 := hp.backV 7 12 rfl rfl rfl rfl rfl; have e26 := hp.backV 19 0 rfl rfl rfl rfl rfl
        refine ⟨Free.want_none rfl, ?_⟩
        clear hp
        go_simp
        rfl
      refine Free.Seq.done (by simp) (fun wz hIz => ?_)
      simp only [List.reverse_cons, List.reverse_nil, List.nil_append, List.cons_append, Free.All, Free.eqF, forall_eq]
      skip
      simp only [Free.putL, Act.put, List.setIfInBounds_toArray, List.set_cons_zero, List.set_cons_succ]
      go_wp2
      refine ⟨⟨j + 1, by omega, by go_num, HL.out.below hIz, HB.out.trans (hIz.mono HB.out.size)⟩, ?_⟩
      simp [intOf]
      omega
    · obtain rfl : j = k := by omega
      have hkc : j ≤ cP := by omega
      by_cases hjn : j < n
      · obtain ⟨gd, off, rfl, hBd, hgd, hcell⟩ := hL.hd.cell (by omega)
        have hx : due[j]? = some (due[j]'(by rw [hdl.out]; omega)) := List.getElem?_eq_getElem _
        obtain ⟨x, hx'⟩ : ∃ x, x = due[j]'(by rw [hdl.out]; omega) := ⟨_, rfl⟩
        rw [← hx'] at hx
        have hc := hcell j (.int .i64 x) (by simp [is, hx])
        have t2 : decide (x ≤ nw) = false := by have := H2.out x hx; simp; omega
        have HL := Lib.hid hL
        have HB := Lib.hid hb
        clear hL hb hcell hx hx'
        go_wp2_with fail
        refine Free.wp_seq (I := fun w' => Below wr.heap.size wr w') (Gr := fun w1 w2 => Below w1.heap.size w1 w2) (by kernel_rfl) (by kernel_rfl) (Below.refl _ _).drew ?_
        refine Free.Seq.val ?_ (fun _ => Below.refl _ _) (fun a w1 hI hp => ?_) ?_
        rotate_left
        · have e3 := hp.slotV 3 (by kernel_rfl) rfl; simp at e3
          refine ⟨Free.want_none rfl, ?_⟩
          clear hp
          go_simp
          rfl
        refine Free.Seq.val ?_ (fun _ => Below.refl _ _) (fun a w1 hI hp => ?_) ?_
        rotate_left
        · have e0 := hp.slotV 0 (by kernel_rfl) rfl; simp at e0
          refine ⟨Free.want_none rfl, ?_⟩
          clear hp
          go_simp
          rfl
        refine Free.Seq.val ?_ (fun _ => Below.refl _ _) (fun a w1 hI hp => ?_) ?_
        rotate_left
        · have e8 := hp.backV 1 0 rfl rfl rfl rfl rfl
          refine ⟨Free.want_none rfl, ?_⟩
          clear hp
          go_simp
          rfl
        refine Free.Seq.val ?_ (fun _ => Below.refl _ _) (fun a w1 hI hp => ?_) ?_
        rotate_left
        · have e9 := hp.backV 2 0 rfl rfl rfl rfl rfl
          refine ⟨Free.want_none rfl, ?_⟩
          clear hp
          go_simp
          rfl
        refine Free.Seq.val ?_ (fun _ => Below.refl _ _) (fun a w1 hI hp => ?_) ?_
        rotate_left
        · have e10 := hp.backV 3 0 rfl rfl rfl rfl rfl
          have k2 := (hI.cell (p := ⟨g, 2, none⟩) glr).trans c2
          refine ⟨Free.want_none rfl, ?_⟩
          clear hp
          go_simp
          rfl
        refine Free.Seq.val ?_ (fun _ => Below.refl _ _) (fun a w1 hI hp => ?_) ?_
        rotate_left
        · have e11 := hp.backV 4 0 rfl rfl rfl rfl rfl
          refine ⟨Free.want_none rfl, ?_⟩
          clear hp
          go_simp
          rfl
        refine Free.Seq.val ?_ (fun _ => Below.refl _ _) (fun a w1 hI hp => ?_) ?_
        rotate_left
        · have e7 := hp.backV 0 5 rfl rfl rfl rfl rfl; have e12 := hp.backV 5 0 rfl rfl rfl rfl rfl
          refine ⟨Free.want_none rfl, ?_⟩
          clear hp
          go_simp
          rfl
        refine Free.Seq.val ?_ (fun _ => Below.refl _ _) (fun a w1 hI hp => ?_) ?_
        rotate_left
        · have e13 := hp.backV 6 0 rfl rfl rfl rfl rfl
          refine ⟨Free.want_none rfl, ?_⟩
          clear hp
          go_simp
          rfl
        refine Free.Seq.val ?_ (fun _ => Below.refl _ _) (fun a w1 hI hp => ?_) ?_
        rotate_left
        · have e14 := hp.backV 7 0 rfl rfl rfl rfl rfl; have e0 := hp.slotV 0 (by kernel_rfl) rfl; simp at e0
          refine ⟨hp.want rfl rfl rfl e14, ?_⟩
          clear hp
          go_simp
          rfl
        refine Free.Seq.val ?_ (fun _ => Below.refl _ _) (fun a w1 hI hp => ?_) ?_
        rotate_left
        · have e14 := hp.backV 7 1 rfl rfl rfl rfl rfl; have e15 := hp.backV 8 0 rfl rfl rfl rfl rfl
          refine ⟨hp.want rfl rfl rfl e14, ?_⟩
          clear hp
          go_simp
          rfl
        refine Free.Seq.val ?_ (fun _ => Below.refl _ _) (fun a w1 hI hp => ?_) ?_
        rotate_left
        · have e14 := hp.backV 7 2 rfl rfl rfl rfl rfl; have e16 := hp.backV 9 0 rfl rfl rfl rfl rfl
          refine ⟨hp.want rfl rfl rfl e14, ?_⟩
          clear hp
          go_simp
          rfl
        refine Free.Seq.val ?_ (fun _ => Below.refl _ _) (fun a w1 hI hp => ?_) ?_
        rotate_left
        · have e14 := hp.backV 7 3 rfl rfl rfl rfl rfl; have e17 := hp.backV 10 0 rfl rfl rfl rfl rfl
          have k3 := (hI.cell (p := ⟨g, 3, none⟩) glr).trans c3
          refine ⟨hp.want rfl rfl rfl e14, ?_⟩
          clear hp
          go_simp
          rfl
        refine Free.Seq.val ?_ (fun _ => Below.refl _ _) (fun a w1 hI hp => ?_) ?_
        rotate_left
        · have e14 := hp.backV 7 4 rfl rfl rfl rfl rfl; have e3 := hp.slotV 3 (by kernel_rfl) rfl; simp at e3
          refine ⟨hp.want rfl rfl rfl e14, ?_⟩
          clear hp
          go_simp
          rfl
        refine Free.Seq.val ?_ (fun _ => Below.refl _ _) (fun a w1 hI hp => ?_) ?_
        rotate_left
        · have e14 := hp.backV 7 5 rfl rfl rfl rfl rfl; have e18 := hp.backV 11 1 rfl rfl rfl rfl rfl; have e19 := hp.backV 12 0 rfl rfl rfl rfl rfl
          refine ⟨hp.want rfl rfl rfl e14, ?_⟩
          clear hp
          go_simp
          rfl
        refine Free.Seq.val ?_ (fun _ => Below.refl _ _) (fun a w1 hI hp => ?_) ?_
        rotate_left
        · have e14 := hp.backV 7 6 rfl rfl rfl rfl rfl; have e20 := hp.backV 13 0 rfl rfl rfl rfl rfl
          have k9 := (hI.cell (p := ⟨gd, off + j, none⟩) hgd).trans hc
          refine ⟨hp.want rfl rfl rfl e14, ?_⟩
          clear hp
          go_simp
          rfl
        refine Free.Seq.val ?_ (fun _ => Below.refl _ _) (fun a w1 hI hp => ?_) ?_
        rotate_left
        · have e14 := hp.backV 7 7 rfl rfl rfl rfl rfl; have e0 := hp.slotV 0 (by kernel_rfl) rfl; simp at e0
          refine ⟨hp.want rfl rfl rfl e14, ?_⟩
          clear hp
          go_simp
          rfl
        refine Free.Seq.val ?_ (fun _ => Below.refl _ _) (fun a w1 hI hp => ?_) ?_
        rotate_left
        · have e14 := hp.backV 7 8 rfl rfl rfl rfl rfl; have e22 := hp.backV 15 0 rfl rfl rfl rfl rfl
          refine ⟨hp.want rfl rfl rfl e14, ?_⟩
          clear hp
          go_simp
          rfl
        refine Free.Seq.val ?_ (fun _ => Below.refl _ _) (fun a w1 hI hp => ?_) ?_
        rotate_left
        · have e14 := hp.backV 7 9 rfl rfl rfl rfl rfl; have e23 := hp.backV 16 0 rfl rfl rfl rfl rfl
          refine ⟨hp.want rfl rfl rfl e14, ?_⟩
          clear hp
          go_simp
          rfl
        refine Free.Seq.val ?_ (fun _ => Below.refl _ _) (fun a w1 hI hp => ?_) ?_
        rotate_left
        · have e14 := hp.backV 7 10 rfl rfl rfl rfl rfl; have e24 := hp.backV 17 0 rfl rfl rfl rfl rfl
          have k1 := (hI.cell (p := ⟨g, 1, none⟩) glr).trans c1
          refine ⟨hp.want rfl rfl rfl e14, ?_⟩
          clear hp
          go_simp
          rfl
        refine Free.Seq.val ?_ (fun _ => Below.refl _ _) (fun a w1 hI hp => ?_) ?_
        rotate_left
        · have e14 := hp.backV 7 11 rfl rfl rfl rfl rfl; have e21 := hp.backV 14 4 rfl rfl rfl rfl rfl; have e25 := hp.backV 18 0 rfl rfl rfl rfl rfl
          refine ⟨hp.want rfl rfl rfl e14, ?_⟩
          clear hp
          go_simp
          rfl
        refine Free.Seq.val ?_ (fun _ => Below.refl _ _) (fun a w1 hI hp => ?_) ?_
        rotate_left
        · have e14 := hp.backV 7 12 rfl rfl rfl rfl rfl; have e26 := hp.backV 19 0 rfl rfl rfl rfl rfl
          refine ⟨Free.want_none rfl, ?_⟩
          clear hp
          go_simp
          rfl
        refine Free.Seq.done (by simp) (fun wz hIz => ?_)
        simp only [List.reverse_cons, List.reverse_nil, List.nil_append, List.cons_append, Free.All, Free.eqF, forall_eq]
        skip
        simp only [Free.putL, Act.put, List.setIfInBounds_toArray, List.set_cons_zero, List.set_cons_succ]
        have HLz := HL.out.below hIz
        have HBz := Lib.hid (HB.out.trans (hIz.mono HB.out.size))
        have hsz := Lib.hid HBz.out.size
        have hs : Src (wz.alloc (.cells #[] 5)) AP j 1 (bs (p.take j)) := (((HLz.hp.rd (by omega)).below ((Below.refl _ _).alloc (Nat.le_refl _) (.cells #[] 5))).take hk).src
        have c2 := HLz.c2
        have c3 := HLz.c3
        have glz := HLz.lt
        have HLZ := Lib.hid HLz
        clear c1 HLz HL HB hIz
        go_wp2_with (at_builtin; refine wpList_app _ rfl elemB (.tmp 30) (.tmp 37) rfl rfl (own_empty wz w.heap.size _ _ 1 rfl hsz.out) rfl hs j (by omega) (by omega) (by have := hsz.out; simp; omega) ?_; intro A1 d1 w2 hown2 hg2 hat2)
        have hb2 : Below wz.heap.size wz w2 := ((Below.refl _ _).alloc (Nat.le_refl _) _).grown hg2 (by simp) (by intro k hk; simp [Value.ownBlock, Act.eval] at hk; omega)
        have HL2 := HLZ.out.below hb2
        have c2' := HL2.c2
        have c3' := HL2.c3
        have f2' := HL2.fr 2
        have f3' := HL2.fr 3
        have hg2' := Lib.hid HL2.lt
        have HLL := Lib.hid HL2
        have HB2 := Lib.hid (HBz.out.trans (hb2.mono hsz.out))
        have HO2 := Lib.hid (OwnB.of hown2 (p.take j) (by simp))
        clear HL2 HLZ hb2 hown2 hg2 hat2 c2 c3 hs HBz
        go_region
        go_wp2
        go_ret
        have hlow := HL0.out.lt
        refine ⟨_, _, _, _, rfl, ?_, (HLL.out.set23 (by rw [bs_drop]; exact HLL.out.hp.cut hk) (by rw [is_drop]; exact HLL.out.hd.cut' hk)).keep (fun _ _ _ => rfl), ((Kept.all (S := fun i => i = g) HB2.out).setCell (p := ⟨g, 2, none⟩) (.inl rfl) _).setCell (p := ⟨g, 3, none⟩) (.inl rfl) _ |>.drew, Anew.cut _ _ _ _ _ _ _, Anew.cut' _ _ _ _ _ _ _ _⟩
        exact ownsRow_setCell_below (ownsRow_setCell_below HO2.out hlow _) hlow _
      · obtain rfl : n = j := by omega
        have HL := Lib.hid hL
        have HB := Lib.hid hb
        clear hL hb hjn
        go_wp2_with fail
        refine Free.wp_seq (I := fun w' => Below wr.heap.size wr w') (Gr := fun w1 w2 => Below w1.heap.size w1 w2) (by kernel_rfl) (by kernel_rfl) (Below.refl _ _).drew ?_
        refine Free.Seq.val ?_ (fun _ => Below.refl _ _) (fun a w1 hI hp => ?_) ?_
        rotate_left
        · have e3 := hp.slotV 3 (by kernel_rfl) rfl; simp at e3
          refine ⟨Free.want_none rfl, ?_⟩
          clear hp
          go_simp
          rfl
        refine Free.Seq.val ?_ (fun _ => Below.refl _ _) (fun a w1 hI hp => ?_) ?_
        rotate_left
        · have e0 := hp.slotV 0 (by kernel_rfl) rfl; simp at e0
          refine ⟨Free.want_none rfl, ?_⟩
          clear hp
          go_simp
          rfl
        refine Free.Seq.val ?_ (fun _ => Below.refl _ _) (fun a w1 hI hp => ?_) ?_
        rotate_left
        · have e8 := hp.backV 1 0 rfl rfl rfl rfl rfl
          refine ⟨Free.want_none rfl, ?_⟩
          clear hp
          go_simp
          rfl
        refine Free.Seq.val ?_ (fun _ => Below.refl _ _) (fun a w1 hI hp => ?_) ?_
        rotate_left
        · have e9 := hp.backV 2 0 rfl rfl rfl rfl rfl
          refine ⟨Free.want_none rfl, ?_⟩
          clear hp
          go_simp
          rfl
        refine Free.Seq.val ?_ (fun _ => Below.refl _ _) (fun a w1 hI hp => ?_) ?_
        rotate_left
        · have e10 := hp.backV 3 0 rfl rfl rfl rfl rfl
          have k2 := (hI.cell (p := ⟨g, 2, none⟩) glr).trans c2
          refine ⟨Free.want_none rfl, ?_⟩
          clear hp
          go_simp
          rfl
        refine Free.Seq.val ?_ (fun _ => Below.refl _ _) (fun a w1 hI hp => ?_) ?_
        rotate_left
        · have e11 := hp.backV 4 0 rfl rfl rfl rfl rfl
          refine ⟨Free.want_none rfl, ?_⟩
          clear hp
          go_simp
          rfl
        refine Free.Seq.val ?_ (fun _ => Below.refl _ _) (fun a w1 hI hp => ?_) ?_
        rotate_left
        · have e7 := hp.backV 0 5 rfl rfl rfl rfl rfl; have e12 := hp.backV 5 0 rfl rfl rfl rfl rfl
          refine ⟨Free.want_none rfl, ?_⟩
          clear hp
          go_simp
          rfl
        refine Free.Seq.val ?_ (fun _ => Below.refl _ _) (fun a w1 hI hp => ?_) ?_
        rotate_left
        · have e13 := hp.backV 6 0 rfl rfl rfl rfl rfl
          refine ⟨Free.want_none rfl, ?_⟩
          clear hp
          go_simp
          rfl
        refine Free.Seq.pass (fun a w1 hI hp => hp.pass rfl rfl rfl (hp.backV 7 0 rfl rfl rfl rfl rfl)) ?_
        refine Free.Seq.pass (fun a w1 hI hp => hp.pass rfl rfl rfl (hp.backV 7 1 rfl rfl rfl rfl rfl)) ?_
        refine Free.Seq.pass (fun a w1 hI hp => hp.pass rfl rfl rfl (hp.backV 7 2 rfl rfl rfl rfl rfl)) ?_
        refine Free.Seq.pass (fun a w1 hI hp => hp.pass rfl rfl rfl (hp.backV 7 3 rfl rfl rfl rfl rfl)) ?_
        refine Free.Seq.pass (fun a w1 hI hp => hp.pass rfl rfl rfl (hp.backV 7 4 rfl rfl rfl rfl rfl)) ?_
        refine Free.Seq.pass (fun a w1 hI hp => hp.pass rfl rfl rfl (hp.backV 7 5 rfl rfl rfl rfl rfl)) ?_
        refine Free.Seq.pass (fun a w1 hI hp => hp.pass rfl rfl rfl (hp.backV 7 6 rfl rfl rfl rfl rfl)) ?_
        refine Free.Seq.pass (fun a w1 hI hp => hp.pass rfl rfl rfl (hp.backV 7 7 rfl rfl rfl rfl rfl)) ?_
        refine Free.Seq.pass (fun a w1 hI hp => hp.pass rfl rfl rfl (hp.backV 7 8 rfl rfl rfl rfl rfl)) ?_
        refine Free.Seq.pass (fun a w1 hI hp => hp.pass rfl rfl rfl (hp.backV 7 9 rfl rfl rfl rfl rfl)) ?_
        refine Free.Seq.pass (fun a w1 hI hp => hp.pass rfl rfl rfl (hp.backV 7 10 rfl rfl rfl rfl rfl)) ?_
        refine Free.Seq.pass (fun a w1 hI hp => hp.pass rfl rfl rfl (hp.backV 7 11 rfl rfl rfl rfl rfl)) ?_
        refine Free.Seq.val ?_ (fun _ => Below.refl _ _) (fun a w1 hI hp => ?_) ?_
        rotate_left
        · have e14 := hp.backV 7 12 rfl rfl rfl rfl rfl; have e26 := hp.backV 19 0 rfl rfl rfl rfl rfl
          refine ⟨Free.want_none rfl, ?_⟩
          clear hp
          go_simp
          rfl
        refine Free.Seq.done (by simp) (fun wz hIz => ?_)
        simp only [List.reverse_cons, List.reverse_nil, List.nil_append, List.cons_append, Free.All, Free.eqF, forall_eq]
        skip
        simp only [Free.putL, Act.put, List.setIfInBounds_toArray, List.set_cons_zero, List.set_cons_succ]
        have HLz := HL.out.below hIz
        have HBz := Lib.hid (HB.out.trans (hIz.mono HB.out.size))
        have hsz := Lib.hid HBz.out.size
        have hs : Src (wz.alloc (.cells #[] 5)) AP n 1 (bs (p.take n)) := (((HLz.hp.rd (by omega)).below ((Below.refl _ _).alloc (Nat.le_refl _) (.cells #[] 5))).take hk).src
        have c2 := HLz.c2
        have c3 := HLz.c3
        have glz := HLz.lt
        have HLZ := Lib.hid HLz
        clear c1 HLz HL HB hIz
        go_wp2_with (at_builtin; refine wpList_app _ rfl elemB (.tmp 30) (.tmp 37) rfl rfl (own_empty wz w.heap.size _ _ 1 rfl hsz.out) rfl hs n (by omega) (by omega) (by have := hsz.out; simp; omega) ?_; intro A1 d1 w2 hown2 hg2 hat2)
        have hb2 : Below wz.heap.size wz w2 := ((Below.refl _ _).alloc (Nat.le_refl _) _).grown hg2 (by simp) (by intro k hk; simp [Value.ownBlock, Act.eval] at hk; omega)
        have HL2 := HLZ.out.below hb2
        have c2' := HL2.c2
        have c3' := HL2.c3
        have f2' := HL2.fr 2
        have f3' := HL2.fr 3
        have hg2' := Lib.hid HL2.lt
        have HLL := Lib.hid HL2
        have HB2 := Lib.hid (HBz.out.trans (hb2.mono hsz.out))
        have HO2 := Lib.hid (OwnB.of hown2 (p.take n) (by simp))
        clear HL2 HLZ hb2 hown2 hg2 hat2 c2 c3 hs HBz
        go_region
        go_wp2
        go_ret
        have hlow := HL0.out.lt
        simp only [Nat.sub_self]
        refine ⟨_, _, _, _, rfl, ?_, (HLL.out.set23 (by rw [bs_drop]; exact HLL.out.hp.end rfl) (by rw [is_drop]; exact HLL.out.hd.end rfl)).keep (fun _ _ _ => rfl), ((Kept.all (S := fun i => i = g) HB2.out).setCell (p := ⟨g, 2, none⟩) (.inl rfl) _).setCell (p := ⟨g, 3, none⟩) (.inl rfl) _ |>.drew, Anew.end _ _ _ _ _ _, Anew.end _ _ _ _ _ _⟩
        exact ownsRow_setCell_below (ownsRow_setCell_below HO2.out hlow _) hlow _
end Go.Proofs.Ytgiboekjjnmnnaa
