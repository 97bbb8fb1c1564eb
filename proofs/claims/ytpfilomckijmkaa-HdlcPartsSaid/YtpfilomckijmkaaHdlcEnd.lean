/-
  A DECODER'S END OF A FRAME: what was gathered is told apart.
-/
import Derived.Test.YtpfilomckijmkaaHdlcWalk
import Derived.Test.YtpfilomckijmkaaFlagB
import Derived.Test.YtpfilomckijmkaaCrcMade
import Derived.Test.YtpfilomckijmkaaStuffWalk
import Derived.WalkMore
import Derived.Deep.LoopGhost
namespace Go.Proofs.Ytpfilomckijmkaa
open Go.RowKit

theorem elemL : ElemOf Try.prog 22 25 (.slice none 0 0) 1 24 := ⟨Try.underlying22, by kernel_rfl, rfl, by decide, by decide⟩

/-- an append onto a row without room: nothing that was there is written -/
theorem run_app0 {P : Program} (w : World) {t e : TypeId} {z : Value} {bytes : Nat} (hE : ElemOf P t e z 1 bytes) (ty : TypeId) {B b : Nat} {cur : Array Value} (hg : w.heap[b]? = some (.cells cur e (0, 0))) (hB : B ≤ b)
    {A : Option Addr} {m : Nat} (c : Nat) {news : List Value} (hs : Src w A m 1 news) (hb : m * bytes ≤ 140737488355328) :
    ∃ A' c' w', (Builtin.append_ #[t, t] ty #[.slice (some ⟨b, 0, none⟩) 0 0, .slice A m c]).run P w = .ok (.slice A' m c') w' ∧ Sl w' B e (.slice A' m c') m news ∧ Below w.heap.size w w' := by
  obtain ⟨i, hi, hz, hsz, hby⟩ := info_parts hE.info
  have hnl : news.length = m := by have := hs.len; omega
  have hown : Sl w B e (.slice (some ⟨b, 0, none⟩) 0 0) 0 [] := ⟨rfl, .inr ⟨b, 0, 0, cur, rfl, hB, hg, Nat.le_refl _, by unfold maxLen; omega, by omega, rfl⟩⟩
  rcases Nat.eq_zero_or_pos m with h0 | h0
  · subst h0
    have hn : news = [] := List.eq_nil_of_length_eq_zero hnl
    subst hn
    refine ⟨_, _, w, ?_, hown, Below.refl _ _⟩
    cases A with
    | none => simp [Builtin.append_, run_underlying hE.ht, sizeOf, typeInfo, hi, Builtin.lenOf, Builtin.firstCells, storeCells]
    | some ad =>
      have hf := run_firstCells_some (P := P) w 1 0 ad 0 c [] rfl (by intro j u hu; simp at hu)
      simp [Builtin.append_, run_underlying hE.ht, sizeOf, typeInfo, hi, Builtin.lenOf, hsz, hf, storeCells]
  · obtain ⟨ad, rfl, hc⟩ := hs.at_ h0
    have h63 : 0 + m ≤ maxLen := by
      have := Nat.le_mul_of_pos_right m hE.wide
      unfold maxLen
      omega
    obtain ⟨v', w', hrun, r1, r2⟩ := run_append_arg_grows (P := P) w t ty e i z 1 bytes hE.ht hi hz hsz hby hE.zs (by omega) ⟨b, 0, none⟩ 0 0 [] rfl (by intro j u hu; simp at hu) ad m c news hs.len hc (by omega) h63 (by simpa using hb)
    have hsl := Sl.of_row r1
    obtain ⟨A', c', rfl, _⟩ := hsl.form
    simp only [Nat.zero_add, List.nil_append] at hrun hsl
    have hlt := (Array.getElem?_eq_some_iff.1 hg).1
    exact ⟨A', c', w', hrun, hsl.base fun k hk => by have := (hsl.lt k hk).1; omega, ⟨r2.os, r2.tape, r2.output, r2.size, fun k hk => r2.block k hk (by simp)⟩⟩

/-- a content is told -/
theorem Dc.tell {wy w3 : World} {B C g : Nat} {d : Hdl.Dec} {I T T' : Value} {xs : List Value} {told : List (List UInt8)} (h : Dc wy B C g d I T xs told) (hk : Kept (fun k => T.ownBlock = some k) wy w3)
    {n : Nat} {l : List UInt8} (hn : l.length = n) {A : Option Addr} {c : Nat} (hs : Sl w3 B 25 T' (told.length + 1) (xs ++ [.slice A n c])) (hl : Sl w3 wy.heap.size 5 (.slice A n c) n (bs l)) (ha : Anew wy T T') :
    Dc (w3.setCell ⟨g, 7, none⟩ T') B C g d I T' (xs ++ [.slice A n c]) (told ++ [l]) ∧ Kept (DcS g I T) wy (w3.setCell ⟨g, 7, none⟩ T') := by
  subst hn
  have hlt := h.lt
  have hlow := h.low
  have ho : w3.heap[g]? = some (.cells (dcs d I T) 49 (0, 0)) := (hk.block g hlt h.tne).trans h.obj
  have hne : ∀ k, T'.ownBlock = some k → k ≠ g := by
    rintro k e rfl
    rcases ha _ e with e' | e'
    · exact h.tne e'
    · omega
  refine ⟨⟨hlow, by have := h.cow; have := hk.size; simp; omega, ?_, ?_, ?_, ?_⟩, (hk.mono fun i _ e => .inr (.inr e)).setCell (p := ⟨g, 7, none⟩) (.inl (.inl rfl)) _⟩
  · rw [heap_setCell_same w3 g 7 _ _ _ ho]; rfl
  · refine h.hi.kept fun k e => (heap_setCell_other _ _ _ _ ?_).trans (hk.block k (h.hi.lt k e).2 fun e' => h.it k e e')
    rintro rfl
    exact h.ine e
  · rw [List.length_append, List.length_singleton]
    exact hs.kept fun k e => heap_setCell_other _ _ _ _ (hne k e)
  · have hto : Told (w3.setCell ⟨g, 7, none⟩ T') C I xs told := by
      refine h.tl.kept (fun k _ e _ => (heap_setCell_other _ _ _ _ ?_).trans (hk.block k (Array.getElem?_eq_some_iff.1 e).1 ?_)) (.refl _ _)
      · rintro rfl
        exact ty_ne e h.obj (by decide) rfl
      · intro e'
        obtain ⟨cur, hc⟩ := h.ht.type k e'
        exact ty_ne e hc (by decide) rfl
    refine ⟨by simp [hto.1], fun j l' hj => ?_⟩
    rw [List.getElem?_append] at hj
    split at hj
    · obtain ⟨A', c', h1, h2, h3⟩ := hto.2 j l' hj
      exact ⟨A', c', by rw [List.getElem?_append_left (by rw [hto.1]; assumption)]; exact h1, h2, h3⟩
    · have hj0 : j - told.length = 0 := by
        rcases Nat.eq_zero_or_pos (j - told.length) with h0 | h0
        · exact h0
        · rw [List.getElem?_eq_none (by simp; omega)] at hj
          cases hj
      rw [hj0] at hj
      simp at hj
      subst hj
      have hjl : j = xs.length := by rw [hto.1]; omega
      subst hjl
      refine ⟨A, c, by simp, (hl.base fun k e => by have := (hl.lt k e).1; have := h.cow; omega).kept fun k e => heap_setCell_other _ _ _ _ ?_, fun k e e' => ?_⟩
      · rintro rfl
        have := (hl.lt _ e).1
        omega
      · have h1 := (hl.lt k e).1
        have h2 := (h.hi.lt k e').2
        omega

/-- what each operation of the telling keeps -/
def GE (T : Value) (N j : Nat) (x y : World) : Prop := x.heap.size ≤ y.heap.size ∧ (∀ k, N ≤ k → k < x.heap.size → y.heap[k]? = x.heap[k]?) ∧ (j = 13 ∨ ∀ k, T.ownBlock = some k → y.heap[k]? = x.heap[k]?)
def TE5 (N : Nat) (v : Value) (w' : World) : Prop := ∃ b cur, v = .slice (some ⟨b, 0, none⟩) 0 0 ∧ N ≤ b ∧ w'.heap[b]? = some (.cells cur 5 (0, 0))
def TE11 (N n : Nat) (l : List UInt8) (v : Value) (w' : World) : Prop := ∃ A c, v = .slice A n c ∧ Sl w' N 5 (.slice A n c) n (bs l)
def TE12 (N n : Nat) (l : List UInt8) (v : Value) (w' : World) : Prop := ∃ b A c, v = .slice (some ⟨b, 0, none⟩) 1 1 ∧ N ≤ b ∧ w'.heap[b]? = some (.cells #[.slice A n c] 25 (0, 0)) ∧ Sl w' N 5 (.slice A n c) n (bs l)
def TE13 (wy : World) (B n : Nat) (l : List UInt8) (T : Value) (k : Nat) (xs : List Value) (v : Value) (w' : World) : Prop :=
  ∃ A c A' c', v = .slice A' (k + 1) c' ∧ Sl w' B 25 (.slice A' (k + 1) c') (k + 1) (xs ++ [.slice A n c]) ∧ Sl w' wy.heap.size 5 (.slice A n c) n (bs l) ∧ Anew wy T (.slice A' (k + 1) c')
def TS (wy : World) (B C g : Nat) (d : Hdl.Dec) (I T : Value) (xs : List Value) (told : List (List UInt8)) (n : Nat) (l : List UInt8) (w' : World) : Prop :=
  ∃ T' A c, Dc w' B C g d I T' (xs ++ [.slice A n c]) (told ++ [l]) ∧ Kept (DcS g I T) wy w' ∧ Anew wy T T'
def IE (wy : World) (B C g : Nat) (d : Hdl.Dec) (I T : Value) (xs : List Value) (told : List (List UInt8)) (n : Nat) (l : List UInt8) (L13 L16 : Bool) (w' : World) : Prop :=
  (L13 = false → Below wy.heap.size wy w') ∧ (L16 = false → Kept (fun k => T.ownBlock = some k) wy w') ∧ (L16 = true → TS wy B C g d I T xs told n l w')

section
variable {T : Value} {N j n : Nat} {l : List UInt8} {v : Value} {x y wy : World}
theorem GE.sl (h : GE T N j x y) {e : TypeId} {m : Nat} {xs : List Value} (hs : Sl x N e v m xs) : Sl y N e v m xs := hs.kept fun k e => h.2.1 k (hs.lt k e).1 (hs.lt k e).2
theorem GE.refl (T : Value) (N j : Nat) (x : World) : GE T N j x x := ⟨Nat.le_refl _, fun _ _ _ => rfl, .inr fun _ _ => rfl⟩
theorem GE.below (h : Below x.heap.size x y) (hT : ∀ k, T.ownBlock = some k → k < x.heap.size) : GE T N j x y := ⟨h.size, fun k _ hk => h.block k hk, .inr fun k e => h.block k (hT k e)⟩
theorem TE5.mono (h : TE5 N v x) (hg : GE T N j x y) : TE5 N v y := by
  obtain ⟨b, cur, rfl, h1, h2⟩ := h
  exact ⟨b, cur, rfl, h1, (hg.2.1 b h1 (Array.getElem?_eq_some_iff.1 h2).1).trans h2⟩
theorem TE11.mono (h : TE11 N n l v x) (hg : GE T N j x y) : TE11 N n l v y := by
  obtain ⟨A, c, rfl, h1⟩ := h
  exact ⟨A, c, rfl, hg.sl h1⟩
theorem TE12.mono (h : TE12 N n l v x) (hg : GE T N j x y) : TE12 N n l v y := by
  obtain ⟨b, A, c, rfl, h1, h2, h3⟩ := h
  exact ⟨b, A, c, rfl, h1, (hg.2.1 b h1 (Array.getElem?_eq_some_iff.1 h2).1).trans h2, hg.sl h3⟩
theorem TE13.mono {B k : Nat} {xs : List Value} (h : TE13 wy B n l T k xs v x) (hg : GE T wy.heap.size j x y) (hj : j ≠ 13) : TE13 wy B n l T k xs v y := by
  obtain ⟨A, c, A', c', rfl, h1, h2, h3⟩ := h
  refine ⟨A, c, A', c', rfl, h1.kept fun i e => ?_, hg.sl h2, h3⟩
  rcases h3 i e with e' | e'
  · rcases hg.2.2 with hh | hh
    · exact absurd hh hj
    · exact hh i e'
  · exact hg.2.1 i e' (h1.lt i e).2
end

/-- one more -/
theorem wrap_up {m : Nat} (h : m ≤ 4611686018427387904) : IntKind.i64.wrap ((m : Int) + 1) = ((m + 1 : Nat) : Int) := by
  rw [IntWalk.i64_in _ ⟨by omega, by omega⟩]
  omega
/-- what an end leaves -/
def EndP (w : World) (B C g : Nat) (d : Hdl.Dec) (I T : Value) (told : List (List UInt8)) (k : Nat) (ls : List (List UInt8)) (e : Ending) (w' : World) : Prop :=
  ∃ T' xs', e = .returned (.tuple #[]) ∧ Dc w' B C g ⟨d.hunts, d.inn, Hdl.count d.met k⟩ I T' xs' (told ++ ls) ∧ Kept (DcS g I T) w w' ∧ Anew w T T'

/-- a count has been raised -/
theorem EndP.count {w w1 : World} {B C g : Nat} {d : Hdl.Dec} {I T : Value} {xs : List Value} {told : List (List UInt8)} {k j : Nat} {u : Value} (h : Dc w1 B C g d I T xs told) (hb : Below w.heap.size w w1) (hj : (dcs d I T).setIfInBounds j u = dcs ⟨d.hunts, d.inn, Hdl.count d.met k⟩ I T) :
    EndP w B C g d I T told k [] (.returned (.tuple #[])) (w1.setCell ⟨g, j, none⟩ u) :=
  ⟨T, xs, rfl, by
    rw [List.append_nil]
    refine h.same (by rw [heap_setCell_same w1 g j _ _ _ h.obj, hj]) ((Kept.refl (fun k => k = g) w1).setCell (p := ⟨g, j, none⟩) (.inl rfl) u) rfl, (Kept.all hb).setCell (p := ⟨g, j, none⟩) (.inl (.inl rfl)) _, .refl _ _⟩

set_option maxHeartbeats 2000000 in
theorem end_broken (w : World) {B C g : Nat} {d : Hdl.Dec} {I T : Value} {xs : List Value} {told : List (List UInt8)} (h : Dc w B C g d I T xs told) (hlen : d.inn.length ≤ 260) (hm : d.met.Le 4611686018427387904) (_ht : told.length ≤ 1000000000000) (hu : Stf.unstuff false d.inn = none) :
    Calls Try.prog 28 #[.pointer (some ⟨g, 0, none⟩)] w (EndP w B C g d I T told 1 []) := by
  have hg := h.lt
  obtain ⟨Ai, ci, rfl, _⟩ := h.hi.form
  obtain ⟨AT, cT, rfl, _⟩ := h.ht.form
  have c1 := h.cell 1
  simp only [dcs] at c1
  simp at c1
  have hrd := h.hi.rd (by omega)
  have HD0 := Lib.hid h
  obtain ⟨m1, m2, m3, m4, m5⟩ := hm
  clear h
  have HU := Lib.hid (Stf.of_none hu); clear hu
  go_enter Try.func28, Try.ntmps28
  go_step3
  go_wp2_with (go_at_call 33; refine (unstuff_any _ _ _ _ _ hrd (by omega)).mono ?_; rintro e w1 ⟨Aq, cq, rfl, ho, hb⟩)
  obtain ⟨eb, ee, el⟩ := HU.out
  rw [ee, el]
  rw [eb, el] at ho
  clear eb ee el c1 hrd
  have hD1 := HD0.out.below hb
  have hsz := hb.size
  have cj := hD1.cell 6
  have fj := hD1.fr 6
  simp only [dcs] at cj
  simp at cj
  have hw := wrap_up m5
  have HD1 := Lib.hid hD1; clear hD1
  go_step3
  go_wp2
  refine Go.wp_loop_once ?_
  go_wp2
  
  go_end0
  exact EndP.count HD1.out hb (by simp [dcs, Hdl.count])
set_option maxHeartbeats 2000000 in
theorem end_short (w : World) {B C g : Nat} {d : Hdl.Dec} {I T : Value} {xs : List Value} {told : List (List UInt8)} (h : Dc w B C g d I T xs told) (hlen : d.inn.length ≤ 260) (hm : d.met.Le 4611686018427387904) (_ht : told.length ≤ 1000000000000) {q : List UInt8} (hu : Stf.unstuff false d.inn = some q) (h3 : q.length < 3) (_hq : q.length ≤ 260) :
    Calls Try.prog 28 #[.pointer (some ⟨g, 0, none⟩)] w (EndP w B C g d I T told 2 []) := by
  have hg := h.lt
  obtain ⟨Ai, ci, rfl, _⟩ := h.hi.form
  obtain ⟨AT, cT, rfl, _⟩ := h.ht.form
  have c1 := h.cell 1
  simp only [dcs] at c1
  simp at c1
  have hrd := h.hi.rd (by omega)
  have HD0 := Lib.hid h
  obtain ⟨m1, m2, m3, m4, m5⟩ := hm
  clear h
  have HU := Lib.hid (Stf.of_some hu); clear hu
  go_enter Try.func28, Try.ntmps28
  go_step3
  go_wp2_with (go_at_call 33; refine (unstuff_any _ _ _ _ _ hrd (by omega)).mono ?_; rintro e w1 ⟨Aq, cq, rfl, ho, hb⟩)
  obtain ⟨eb, ee, el⟩ := HU.out
  rw [ee, el]
  rw [eb, el] at ho
  clear eb ee el c1 hrd
  have hD1 := HD0.out.below hb
  have hsz := hb.size
  generalize hn : q.length = n at h3 ho ⊢
  have HN := Lib.hid hn; clear hn
  have cj := hD1.cell 4
  have fj := hD1.fr 4
  simp only [dcs] at cj
  simp at cj
  have hw := wrap_up m3
  have HD1 := Lib.hid hD1; clear hD1
  go_step3
  go_wp2
  refine Go.wp_loop_once ?_
  go_wp2
  
  go_end0
  exact EndP.count HD1.out hb (by simp [dcs, Hdl.count])
set_option maxHeartbeats 2000000 in
theorem end_bad (w : World) {B C g : Nat} {d : Hdl.Dec} {I T : Value} {xs : List Value} {told : List (List UInt8)} (h : Dc w B C g d I T xs told) (hlen : d.inn.length ≤ 260) (hm : d.met.Le 4611686018427387904) (_ht : told.length ≤ 1000000000000) {q : List UInt8} (hu : Stf.unstuff false d.inn = some q) (h3 : ¬ q.length < 3) (hq : q.length ≤ 260) (hr : Crc.right q = false) :
    Calls Try.prog 28 #[.pointer (some ⟨g, 0, none⟩)] w (EndP w B C g d I T told 3 []) := by
  have hg := h.lt
  obtain ⟨Ai, ci, rfl, _⟩ := h.hi.form
  obtain ⟨AT, cT, rfl, _⟩ := h.ht.form
  have c1 := h.cell 1
  simp only [dcs] at c1
  simp at c1
  have hrd := h.hi.rd (by omega)
  have HD0 := Lib.hid h
  obtain ⟨m1, m2, m3, m4, m5⟩ := hm
  clear h
  have HU := Lib.hid (Stf.of_some hu); clear hu
  go_enter Try.func28, Try.ntmps28
  go_step3
  go_wp2_with (go_at_call 33; refine (unstuff_any _ _ _ _ _ hrd (by omega)).mono ?_; rintro e w1 ⟨Aq, cq, rfl, ho, hb⟩)
  obtain ⟨eb, ee, el⟩ := HU.out
  rw [ee, el]
  rw [eb, el] at ho
  clear eb ee el c1 hrd
  have hD1 := HD0.out.below hb
  have hsz := hb.size
  generalize hn : q.length = n at h3 hq ho ⊢
  have HR := Lib.hid (ho.rd hn (by omega))
  have HN := Lib.hid hn; clear hn
  have h3' : ¬ ((n : Int) < 3) := by omega
  have HRT := Lib.hid hr; clear hr
  have HD1 := Lib.hid hD1; clear hD1
  go_step3
  go_wp2
  refine Go.wp_loop_once ?_
  go_wp2_with fail
  refine (cright_any Aq n cq q _ HR.out).mono ?_
  rintro e w2 ⟨rfl, hb2⟩
  rw [HRT.out]
  have hb12 := hb.trans (hb2.mono hsz)
  have hD2 := HD1.out.below hb2
  have cj := hD2.cell 3
  have fj := hD2.fr 3
  simp only [dcs] at cj
  simp at cj
  have hw := wrap_up m2
  have HD2 := Lib.hid hD2; clear hD2
  go_wp2
  
  go_end0
  exact EndP.count HD2.out hb12 (by simp [dcs, Hdl.count])
set_option maxHeartbeats 2000000 in
theorem end_long (w : World) {B C g : Nat} {d : Hdl.Dec} {I T : Value} {xs : List Value} {told : List (List UInt8)} (h : Dc w B C g d I T xs told) (hlen : d.inn.length ≤ 260) (hm : d.met.Le 4611686018427387904) (_ht : told.length ≤ 1000000000000) {q : List UInt8} (hu : Stf.unstuff false d.inn = some q) (h3 : ¬ q.length < 3) (hq : q.length ≤ 260) (hr : Crc.right q = true) (h4 : 128 < q.length - 2) :
    Calls Try.prog 28 #[.pointer (some ⟨g, 0, none⟩)] w (EndP w B C g d I T told 4 []) := by
  have hg := h.lt
  obtain ⟨Ai, ci, rfl, _⟩ := h.hi.form
  obtain ⟨AT, cT, rfl, _⟩ := h.ht.form
  have c1 := h.cell 1
  simp only [dcs] at c1
  simp at c1
  have hrd := h.hi.rd (by omega)
  have HD0 := Lib.hid h
  obtain ⟨m1, m2, m3, m4, m5⟩ := hm
  clear h
  have HU := Lib.hid (Stf.of_some hu); clear hu
  go_enter Try.func28, Try.ntmps28
  go_step3
  go_wp2_with (go_at_call 33; refine (unstuff_any _ _ _ _ _ hrd (by omega)).mono ?_; rintro e w1 ⟨Aq, cq, rfl, ho, hb⟩)
  obtain ⟨eb, ee, el⟩ := HU.out
  rw [ee, el]
  rw [eb, el] at ho
  clear eb ee el c1 hrd
  have hD1 := HD0.out.below hb
  have hsz := hb.size
  generalize hn : q.length = n at h3 hq h4 ho ⊢
  have HR := Lib.hid (ho.rd hn (by omega))
  have HN := Lib.hid hn; clear hn
  have h3' : ¬ ((n : Int) < 3) := by omega
  have HRT := Lib.hid hr; clear hr
  have HD1 := Lib.hid hD1; clear hD1
  go_step3
  go_wp2
  refine Go.wp_loop_once ?_
  go_wp2_with fail
  refine (cright_any Aq n cq q _ HR.out).mono ?_
  rintro e w2 ⟨rfl, hb2⟩
  rw [HRT.out]
  have hb12 := hb.trans (hb2.mono hsz)
  have hD2 := HD1.out.below hb2
  have cj := hD2.cell 5
  have fj := hD2.fr 5
  simp only [dcs] at cj
  simp at cj
  have hw := wrap_up m4
  have HD2 := Lib.hid hD2; clear hD2
  have h4' : (128 : Int) < (n : Int) - 2 := by omega
  go_wp2
  
  go_end0
  exact EndP.count HD2.out hb12 (by simp [dcs, Hdl.count])
set_option maxHeartbeats 2000000 in
theorem end_good (w : World) {B C g : Nat} {d : Hdl.Dec} {I T : Value} {xs : List Value} {told : List (List UInt8)} (h : Dc w B C g d I T xs told) (hlen : d.inn.length ≤ 260) (hm : d.met.Le 4611686018427387904) (ht : told.length ≤ 1000000000000) {q : List UInt8} (hu : Stf.unstuff false d.inn = some q) (h3 : ¬ q.length < 3) (hq : q.length ≤ 260) (hr : Crc.right q = true) (h4 : ¬ 128 < q.length - 2) :
    Calls Try.prog 28 #[.pointer (some ⟨g, 0, none⟩)] w (EndP w B C g d I T told 0 [q.take (q.length - 2)]) := by
  have hg := h.lt
  obtain ⟨Ai, ci, rfl, _⟩ := h.hi.form
  obtain ⟨AT, cT, rfl, _⟩ := h.ht.form
  have c1 := h.cell 1
  simp only [dcs] at c1
  simp at c1
  have hrd := h.hi.rd (by omega)
  have HD0 := Lib.hid h
  obtain ⟨m1, m2, m3, m4, m5⟩ := hm
  clear h
  have HU := Lib.hid (Stf.of_some hu); clear hu
  go_enter Try.func28, Try.ntmps28
  go_step3
  go_wp2_with (go_at_call 33; refine (unstuff_any _ _ _ _ _ hrd (by omega)).mono ?_; rintro e w1 ⟨Aq, cq, rfl, ho, hb⟩)
  obtain ⟨eb, ee, el⟩ := HU.out
  rw [ee, el]
  rw [eb, el] at ho
  clear eb ee el c1 hrd
  have hD1 := HD0.out.below hb
  have hsz := hb.size
  obtain ⟨n, hn⟩ : ∃ n, q.length = n + 2 := ⟨q.length - 2, by omega⟩
  rw [hn] at h3 hq h4 ho ⊢
  have HR := Lib.hid (ho.rd hn (by omega))
  have HN := Lib.hid hn; clear hn
  have h3' : ¬ ((n : Int) + 2 < 3) := by omega
  have HRT := Lib.hid hr; clear hr
  have HD1 := Lib.hid hD1; clear hD1
  go_step3
  go_wp2
  refine Go.wp_loop_once ?_
  go_wp2_with fail
  refine (cright_any Aq (n + 2) cq q _ HR.out).mono ?_
  rintro e w2 ⟨rfl, hb2⟩
  rw [HRT.out]
  have hb12 := hb.trans (hb2.mono hsz)
  have hD2 := HD1.out.below hb2
  have cj := hD2.cell 2
  have fj := hD2.fr 2
  simp only [dcs] at cj
  simp at cj
  have hw := wrap_up m1
  have HD2 := Lib.hid hD2; clear hD2
  go_wp2
  have hD3 := HD2.out.same (d' := ⟨d.hunts, d.inn, Hdl.count d.met 0⟩) (w' := w2.setCell ⟨g, 2, none⟩ (.int .i64 ((d.met.good : Int) + 1))) (by rw [heap_setCell_same w2 g 2 _ _ _ HD2.out.obj]; simp [dcs, Hdl.count]) ((Kept.refl (fun k => k = g) w2).setCell (p := ⟨g, 2, none⟩) (.inl rfl) _) rfl
  have hk3 : Kept (DcS g (.slice Ai d.inn.length ci) (.slice AT told.length cT)) w (w2.setCell ⟨g, 2, none⟩ (.int .i64 ((d.met.good : Int) + 1))) := (Kept.all hb12).setCell (p := ⟨g, 2, none⟩) (.inl (.inl rfl)) _
  have hr3 : Rd (w2.setCell ⟨g, 2, none⟩ (.int .i64 ((d.met.good : Int) + 1))) Aq (n + 2) cq q := (HR.out.below hb2).keep (by simp) (fun b off e _ => heap_setCell_other _ _ _ _ (by
    subst e
    have := World.ownsRow.lt ho b rfl
    show b ≠ g
    omega))
  generalize w2.setCell ⟨g, 2, none⟩ (.int .i64 ((d.met.good : Int) + 1)) = wy at *
  have HD := Lib.hid hD3
  have hlq : (q.take n).length = n := by rw [List.length_take, HN.out]; omega
  have HLN := Lib.hid hlq
  have HRD := Lib.hid (hr3.take (k := n) (by omega))
  have HLT := Lib.hid (fun k e => (hD3.ht.lt k e).2)
  have hcap := hr3.cap
  obtain ⟨l, hl⟩ : ∃ l, l = q.take n := ⟨_, rfl⟩
  rw [← hl] at HRD HLN hlq
  have HL := Lib.hid hl; clear hl
  obtain ⟨d2, hd2⟩ : ∃ d2 : Hdl.Dec, d2 = ⟨d.hunts, d.inn, Hdl.count d.met 0⟩ := ⟨_, rfl⟩
  have HD2E := Lib.hid hd2
  rw [← hd2] at HD
  have hinn : d.inn = d2.inn := by rw [hd2]
  have HQL := HN
  clear hd2 hlq hr3 hD3 HR HD1 HD2 ho cj fj hw HRT hb hb2 hb12 hsz
  have g0 : (0 : Int) ≤ (n : Int) := by omega
  have g1 : ((n : Int)).toNat = n := by omega
  have g2 : (n : Int) ≤ (cq : Int) := by omega
  have HK3 := Lib.hid hk3; clear hk3
  refine Free.wp_seq3 (I := fun L w' => IE wy B C g d2 (.slice Ai d.inn.length ci) (.slice AT told.length cT) xs told n l (L 13) (L 16) w') (Gr := fun j x y => GE (.slice AT told.length cT) wy.heap.size j x y) (by kernel_rfl) (by kernel_rfl) ⟨fun _ => (Below.refl _ _).drew, fun _ => (Kept.refl _ _).drew, fun h => absurd h (by decide)⟩ ?_
  refine Free.Seq3.val ?_ (fun _ => GE.refl _ _ _ _) (fun _ _ h => h) (fun a w3 L hI hp => ?_) ?_
  rotate_left
  · have e0 := hp.slotV 0 (by kernel_rfl) rfl; simp at e0
    refine ⟨Free.want_none rfl, ?_⟩
    clear hp
    go_simp
    rfl
  refine Free.Seq3.val ?_ (fun _ => GE.refl _ _ _ _) (fun _ _ h => h) (fun a w3 L hI hp => ?_) ?_
  rotate_left
  · have e0 := hp.slotV 0 (by kernel_rfl) rfl; simp at e0
    refine ⟨Free.want_none rfl, ?_⟩
    clear hp
    go_simp
    rfl
  refine Free.Seq3.val ?_ (fun _ => GE.refl _ _ _ _) (fun _ _ h => h) (fun a w3 L hI hp => ?_) ?_
  rotate_left
  · have e74 := hp.backV 1 0 rfl rfl rfl rfl rfl
    refine ⟨Free.want_none rfl, ?_⟩
    clear hp
    go_simp
    rfl
  refine Free.Seq3.val ?_ (fun _ => GE.refl _ _ _ _) (fun _ _ h => h) (fun a w3 L hI hp => ?_) ?_
  rotate_left
  · have e75 := hp.backV 2 0 rfl rfl rfl rfl rfl
    refine ⟨Free.want_none rfl, ?_⟩
    clear hp
    go_simp
    rfl
  refine Free.Seq3.val ?_ (fun _ => GE.refl _ _ _ _) (fun _ _ h => h) (fun a w3 L hI hp => ?_) ?_
  rotate_left
  · have e76 := hp.backV 3 0 rfl rfl rfl rfl rfl
    have u13 : L 13 = false := hp.up 13 40 (by kernel_rfl)
    have k7 := ((hI.1 u13).cell (p := ⟨g, 7, none⟩) HD.out.lt).trans (HD.out.cell 7)
    refine ⟨Free.want_none rfl, ?_⟩
    clear hp
    go_simp
    rfl
  refine Free.Seq3.op (T := TE5 wy.heap.size) (fun j _ _ v x y h hg => h.mono hg) (fun a w3 L hI hp => ?_) ?_
  · skip
    have u13 : L 13 = false := hp.up 13 40 (by kernel_rfl)
    have u16 : L 16 = false := hp.up 16 40 (by kernel_rfl)
    have hb := hI.1 u13
    have hsz := hb.size
    
    have hb2 : Below wy.heap.size wy (w3.alloc (.cells #[] 5)) := hb.alloc hsz _
    refine ⟨Free.want_none rfl, .slice (some ⟨w3.heap.size, 0, none⟩) 0 0, w3.alloc (.cells #[] 5), ?_, ⟨w3.heap.size, #[], rfl, hsz, heap_alloc_new _ _⟩, GE.below ((Below.refl _ _).alloc (Nat.le_refl _) _) (fun k e => by have := HLT.out k e; omega), fun _ => hb2, fun _ => Kept.all hb2, fun h => absurd (h.symm.trans u16) (by decide)⟩
    clear hp hI hb hb2
    go_simp
  refine Free.Seq3.val ?_ (fun _ => GE.refl _ _ _ _) (fun _ _ h => h) (fun a w3 L hI hp => ?_) ?_
  rotate_left
  · have e2 := hp.slotV 2 (by kernel_rfl) rfl; simp at e2
    refine ⟨Free.want_none rfl, ?_⟩
    clear hp
    go_simp
    rfl
  refine Free.Seq3.val ?_ (fun _ => GE.refl _ _ _ _) (fun _ _ h => h) (fun a w3 L hI hp => ?_) ?_
  rotate_left
  · have e2 := hp.slotV 2 (by kernel_rfl) rfl; simp at e2
    refine ⟨Free.want_none rfl, ?_⟩
    clear hp
    go_simp
    rfl
  refine Free.Seq3.val ?_ (fun _ => GE.refl _ _ _ _) (fun _ _ h => h) (fun a w3 L hI hp => ?_) ?_
  rotate_left
  · have e80 := hp.backV 7 0 rfl rfl rfl rfl rfl
    refine ⟨Free.want_none rfl, ?_⟩
    clear hp
    go_simp
    rfl
  refine Free.Seq3.val ?_ (fun _ => GE.refl _ _ _ _) (fun _ _ h => h) (fun a w3 L hI hp => ?_) ?_
  rotate_left
  · have e81 := hp.backV 8 0 rfl rfl rfl rfl rfl
    refine ⟨Free.want_none rfl, ?_⟩
    clear hp
    go_simp
    rfl
  refine Free.Seq3.val ?_ (fun _ => GE.refl _ _ _ _) (fun _ _ h => h) (fun a w3 L hI hp => ?_) ?_
  rotate_left
  · have e79 := hp.backV 6 3 rfl rfl rfl rfl rfl; have e82 := hp.backV 9 0 rfl rfl rfl rfl rfl
    have gw : IntKind.i64.wrap (n : Int) = (n : Int) := IntWalk.i64_in _ ⟨by omega, by omega⟩
    refine ⟨Free.want_none rfl, ?_⟩
    clear hp
    go_simp
    rfl
  refine Free.Seq3.op (T := TE11 wy.heap.size n l) (fun j _ _ v x y h hg => h.mono hg) (fun a w3 L hI hp => ?_) ?_
  · have e83 := hp.backV 10 0 rfl rfl rfl rfl rfl
    have u13 : L 13 = false := hp.up 13 40 (by kernel_rfl)
    have u16 : L 16 = false := hp.up 16 40 (by kernel_rfl)
    have hb := hI.1 u13
    have hsz := hb.size
    
    obtain ⟨b5, cur5, e78, hb5, hc5⟩ := hp.back 5 5 rfl rfl rfl rfl rfl
    obtain ⟨A9, c9, w9, hrun, h9, hb9⟩ := run_app0 w3 elemB _ hc5 hb5 (A := Aq) (m := n) cq (HRD.out.below hb).src (by omega)
    have hb2 := hb.trans (hb9.mono hsz)
    refine ⟨Free.want_none rfl, .slice A9 n c9, w9, ?_, ⟨A9, c9, rfl, h9⟩, GE.below hb9 (fun k e => by have := HLT.out k e; omega), fun _ => hb2, fun _ => Kept.all hb2, fun h => absurd (h.symm.trans u16) (by decide)⟩
    exact Free.exec_app (.tmp 78) (.tmp 83) rfl (Free.eval_tmp e78) (Free.eval_tmp e83) hrun
  refine Free.Seq3.op (T := TE12 wy.heap.size n l) (fun j _ _ v x y h hg => h.mono hg) (fun a w3 L hI hp => ?_) ?_
  · skip
    have u13 : L 13 = false := hp.up 13 40 (by kernel_rfl)
    have u16 : L 16 = false := hp.up 16 40 (by kernel_rfl)
    have hb := hI.1 u13
    have hsz := hb.size
    
    obtain ⟨A9, c9, e84, h9⟩ := hp.back 11 0 rfl rfl rfl rfl rfl
    have hb9 : Below w3.heap.size w3 (w3.alloc (.cells #[.slice A9 n c9] 25)) := (Below.refl _ _).alloc (Nat.le_refl _) _
    have hb2 := hb.trans (hb9.mono hsz)
    refine ⟨Free.want_none rfl, .slice (some ⟨w3.heap.size, 0, none⟩) 1 1, w3.alloc (.cells #[.slice A9 n c9] 25), ?_, ⟨_, A9, c9, rfl, hsz, heap_alloc_new _ _, h9.kept fun k e => hb9.block k (h9.lt k e).2⟩, GE.below hb9 (fun k e => by have := HLT.out k e; omega), fun _ => hb2, fun _ => Kept.all hb2, fun h => absurd (h.symm.trans u16) (by decide)⟩
    clear hp hI hb hb2 hb9 h9
    go_simp
  refine Free.Seq3.op (T := TE13 wy B n l (.slice AT told.length cT) told.length xs) (fun j hj _ v x y h hg => h.mono hg hj) (fun a w3 L hI hp => ?_) ?_
  · have e77 := hp.backV 4 8 rfl rfl rfl rfl rfl
    have u13 : L 13 = false := hp.fresh
    have u16 : L 16 = false := hp.up 16 40 (by kernel_rfl)
    have hb := hI.1 u13
    have hsz := hb.size
    
    obtain ⟨b9, A9, c9, e85, hbb, hcc, h9⟩ := hp.back 12 0 rfl rfl rfl rfl rfl
    have hBl := HD.out.low
    have hgl := HD.out.lt
    have hown := HD.out.ht.kept (w' := w3) fun k e => hb.block k (HLT.out k e)
    have hsrc : Src w3 (some ⟨b9, 0, none⟩) 1 1 [.slice A9 n c9] := ⟨rfl, fun _ => ⟨_, rfl, fun j u hu => by
      rw [add_none, cell_of_cells hcc]
      match j, hu with
      | 0, hu => simpa using hu⟩, by simp [Value.oneCell']⟩
    obtain ⟨A8, c8, w8, hrun, h8, hg8, ha8⟩ := run_slapp w3 elemL _ hown 1 hsrc (N := told.length + 1) rfl (by omega) (by omega)
    have ha : Anew wy (.slice AT told.length cT) (.slice A8 (told.length + 1) c8) := fun k e => (ha8 k e).imp id (fun h => by omega)
    refine ⟨Free.want_none rfl, .slice A8 (told.length + 1) c8, w8, ?_, ⟨A9, c9, A8, c8, rfl, h8, h9.kept fun k e => hg8.block k (h9.lt k e).2 fun e' => ?_, ha⟩, ⟨hg8.size, fun k hk hk2 => hg8.block k hk2 fun e' => ?_, .inl rfl⟩, fun h => absurd h (by simp [Free.upd]), fun _ => (Kept.all hb).grown hg8 (fun k e => .inl e), fun h => absurd (h.symm.trans u16) (by decide)⟩
    · exact Free.exec_app (.tmp 77) (.tmp 85) rfl (Free.eval_tmp e77) (Free.eval_tmp e85) hrun
    · have h1 := (h9.lt k e).1
      have h2 := HLT.out k e'.symm
      omega
    · have h2 := HLT.out k e'.symm
      omega
  refine Free.Seq3.val ?_ (fun _ => GE.refl _ _ _ _) (fun _ _ h => h) (fun a w3 L hI hp => ?_) ?_
  rotate_left
  · have e73 := hp.backV 0 13 rfl rfl rfl rfl rfl
    refine ⟨Free.want_none rfl, ?_⟩
    clear hp
    go_simp
    rfl
  refine Free.Seq3.val ?_ (fun _ => GE.refl _ _ _ _) (fun _ _ h => h) (fun a w3 L hI hp => ?_) ?_
  rotate_left
  · have e87 := hp.backV 14 0 rfl rfl rfl rfl rfl
    refine ⟨Free.want_none rfl, ?_⟩
    clear hp
    go_simp
    rfl
  refine Free.Seq3.skip rfl (fun _ => True) (fun _ _ _ _ _ _ _ => trivial) (fun a w3 L hI hp => ?_) ?_
  · have e88 := hp.backV 15 0 rfl rfl rfl rfl rfl
    have u16 : L 16 = false := hp.fresh
    have hk := hI.2.1 u16
    obtain ⟨A9, c9, A8, c8, e86, h8, h9, ha⟩ := hp.back 13 2 rfl rfl rfl rfl rfl
    have hobj : w3.heap[g]? = some (.cells (dcs d2 (.slice Ai d.inn.length ci) (.slice AT told.length cT)) 49 (0, 0)) := (hk.block g HD.out.lt HD.out.tne).trans HD.out.obj
    have k7 : w3.cell? ⟨g, 7, none⟩ = some (.slice AT told.length cT) := by rw [cell_of_cells hobj]; rfl
    have f7 : w3.frozen? ⟨g, 7, none⟩ = false := frozen_of_row w3 g 7 _ _ hobj
    have htl := HD.out.tell hk HLN.out h8 h9 ha
    refine ⟨Free.want_none rfl, w3.setCell ⟨g, 7, none⟩ (.slice A8 (told.length + 1) c8), ?_, trivial, ⟨by simp, fun k hk1 hk2 => heap_setCell_other _ _ _ _ (by have := HD.out.lt; show k ≠ g; omega), .inr fun k e => heap_setCell_other _ _ _ _ (by rintro rfl; exact HD.out.tne e)⟩, fun h => absurd h (by have : L 13 = true := hp.did 13 40 (by kernel_rfl); simp [Free.upd, this]), fun h => absurd h (by simp [Free.upd]), fun _ => ⟨_, A9, c9, htl.1, htl.2, ha⟩⟩
    clear hp hI hk h8 h9 ha htl hobj
    go_simp
  refine Free.Seq3.done (by simp) (fun wz L hIz hLz => ?_)
  simp only [List.reverse_cons, List.reverse_nil, List.nil_append, List.cons_append, Free.All, Free.eqF, forall_eq]
  rintro x5 - x11 - x12 - x13 - x16 -
  simp only [Free.putL, Act.put, List.setIfInBounds_toArray, List.set_cons_zero, List.set_cons_succ]
  have hts := hIz.2.2 (hLz 16 (by decide))
  clear hIz hLz
  have HTS := Lib.hid hts
  clear hts
  go_wp2
  go_end0
  obtain ⟨T', A9, c9, h1, h2, h3⟩ := HTS.out
  have e1 : q.take (q.length - 2) = l := by rw [HL.out, HQL.out, Nat.add_sub_cancel]
  rw [e1]
  rw [HD2E.out] at h1
  exact ⟨T', _, rfl, h1, HK3.out.trans h2 (fun _ _ h => h), fun k e => (h3 k e).imp id (fun h => Nat.le_trans HK3.out.size h)⟩

theorem end_any (w : World) {B C g : Nat} {d : Hdl.Dec} {I T : Value} {xs : List Value} {told : List (List UInt8)} (h : Dc w B C g d I T xs told) (hlen : d.inn.length ≤ 260) (hm : d.met.Le 4611686018427387904) (ht : told.length ≤ 1000000000000) :
    Calls Try.prog 28 #[.pointer (some ⟨g, 0, none⟩)] w (EndP w B C g d I T told (Hdl.kind d.inn).1 (if (Hdl.kind d.inn).1 = 0 then [(Hdl.kind d.inn).2] else [])) := by
  cases hu : Stf.unstuff false d.inn with
  | none =>
    have e1 : Hdl.kind d.inn = (1, []) := by simp [Hdl.kind, hu]
    rw [e1]
    exact end_broken w h hlen hm ht hu
  | some q =>
    have hq : q.length ≤ 260 := by have h1 := Stf.there _ _ hu; have h2 := (Stf.size_bounds q).1; rw [h1] at h2; omega
    by_cases h3 : q.length < 3
    · have e1 : Hdl.kind d.inn = (2, []) := by simp [Hdl.kind, hu, h3]
      rw [e1]
      exact end_short w h hlen hm ht hu h3 hq
    · by_cases hr : Crc.right q = false
      · have e1 : Hdl.kind d.inn = (3, []) := by simp [Hdl.kind, hu, h3, hr]
        rw [e1]
        exact end_bad w h hlen hm ht hu h3 hq hr
      · have hr' : Crc.right q = true := by simpa using hr
        by_cases h4 : 128 < q.length - 2
        · have e1 : Hdl.kind d.inn = (4, []) := by simp [Hdl.kind, hu, h3, hr', h4]
          rw [e1]
          exact end_long w h hlen hm ht hu h3 hq hr' h4
        · have e1 : Hdl.kind d.inn = (0, q.take (q.length - 2)) := by simp [Hdl.kind, hu, h3, hr', h4]
          rw [e1]
          exact end_good w h hlen hm ht hu h3 hq hr' h4

end Go.Proofs.Ytpfilomckijmkaa
