/-
  WHAT STANDS BETWEEN FLAGS, AS AN ITERATOR.
-/
import Derived.Test.YtiffbmnenbnglaaIter
import Derived.Test.YtiffbmnenbnglaaStuffRParts
namespace Go.Proofs.Ytiffbmnenbnglaa
open Go.RowKit

section
variable {P : Program} {n : Nat} {r : Option Nat}
/-- the first k operations, walked outside of the fence -/
theorem list_cut (k : Nat) {ops : Array Oper} {Q : Exit → Act → World → Prop} {l : List Oper} {a : Act} {w : World} (hd : (l.take k).all noDefer = true)
    (h : wpList P ops (fun e a' w' => e = .normal ∧ wpListIn (Wide r) n P ops Q (l.drop k) a' w') (l.take k) a w) : wpListIn (Wide r) n P ops Q l a w := by
  have := list_in (P := P) (r := r) (n := n) (ops := ops) (Q := Q) (l2 := l.drop k) (l.take k) hd a w h
  rwa [List.take_append_drop] at this
/-- a call of yield -/
theorem list_yield {ops : Array Oper} {Q : Exit → Act → World → Prop} {o : Oper} {rest : List Oper} {a : Act} {w : World} {l : Nat} {x y : Operand} {t : TypeId} {R : Ending → World → Prop}
    (ho : o.op = .call { callee := .value y, args := #[x], argTypes := #[t] }) (hg : o.guard = none) (hy : a.eval y = .func (.yield l) #[] #[])
    (h : YieldAt Fence.wide n P l #[a.eval x] w R) (hK : ∀ e w', R e w' → ∃ b, e = .returned (.bool b) ∧ wpListIn Fence.wide (n + 1) P ops Q rest (a.put o.dst (.bool b)) w') :
    wpListIn Fence.wide (n + 1) P ops Q (o :: rest) a w := by
  obtain ⟨fn, tmps, assign, body, hrun, hR⟩ := h
  have hw : Region.wanted o (yielded ops a.tmps) = true := by simp [Region.wanted, hg]
  rw [wpListIn, if_pos hw]
  refine ⟨fun _ _ => trivial, ?_⟩
  have e1 : (o.semAt Fence.wide.round a.eval).run P w = .ok (.round l fn tmps assign body) w := by
    rw [Oper.semAt_eq _ _ _ (fun c e => by rw [ho] at e; cases e)]
    unfold execOp
    simp only [ho, resolve, hy, List.map_toArray, List.map_cons, List.map_nil]
    generalize a.eval x = u at hrun ⊢
    simp [go_sem, invoke, hrun]
  rw [e1]
  refine ⟨(fun e => by cases e), hR.mono fun e w' hr => ?_⟩
  obtain ⟨b, rfl, hk⟩ := hK e w' hr
  exact hk
end

/-- a variable's block -/
def Bx (w : World) (b : Nat) (t : TypeId) (v : Value) : Prop := w.heap[b]? = some (.cells #[v] t (0, 0))
theorem Bx.cell {w : World} {b : Nat} {t : TypeId} {v : Value} (h : Bx w b t v) : w.cell? ⟨b, 0, none⟩ = some v := by unfold Bx at h; simp [World.cell?, h]
theorem Bx.frozen {w : World} {b : Nat} {t : TypeId} {v : Value} (h : Bx w b t v) : w.frozen? ⟨b, 0, none⟩ = false := by unfold Bx at h; simp [World.frozen?, h]
theorem Bx.lt {w : World} {b : Nat} {t : TypeId} {v : Value} (h : Bx w b t v) : b < w.heap.size := (Array.getElem?_eq_some_iff.1 h).1
theorem Bx.same {S : Nat → Prop} {w w' : World} {b : Nat} {t : TypeId} {v : Value} (h : Bx w b t v) (hs : Same S w w') (hb : S b) : Bx w' b t v := (hs.block b h.lt hb).trans h
theorem Bx.set {w : World} {b : Nat} {t : TypeId} {v : Value} (h : Bx w b t v) (u : Value) : Bx (w.setCell ⟨b, 0, none⟩ u) b t u := by
  unfold Bx at h ⊢
  have hl := (Array.getElem?_eq_some_iff.1 h).1
  simp [World.setCell, Array.getElem?_modify, h]
theorem Bx.new (w : World) (t : TypeId) (v : Value) : Bx (w.alloc (.cells #[v] t)) w.heap.size t v := World.alloc_heap_new w _

theorem Rd.same {S : Nat → Prop} {n0 : Nat} {w w' : World} {A : Option Addr} {n c : Nat} {l : List UInt8} (h : Rd w A n c l) (hA : PlcN n0 A c) (hs : Same S w w') (hS : ∀ k, k < n0 → S k) : Rd w' A n c l :=
  ⟨h.len, h.cap, h.big, fun hn => by
    obtain ⟨b, off, e, hb, hc⟩ := h.at_ hn
    have hbn : b < n0 := by
      rcases hA with ⟨e', _⟩ | ⟨b', o', h', e'⟩
      · rw [e] at e'; cases e'
      · rw [e] at e'; cases e'; exact h'
    refine ⟨b, off, e, Nat.lt_of_lt_of_le hb hs.size, fun j x hx => ?_⟩
    have := hs.block b hb (hS b hbn)
    have h2 := hc j x hx
    simp only [World.cell?, this] at h2 ⊢
    exact h2⟩
theorem cutB_len : ∀ (l : List UInt8) (x : UInt8), (cutB l x).2.2 = true → (cutB l x).2.1.length < l.length
  | [], _, h => by simp [cutB] at h
  | b :: l, x, h => by
    unfold cutB at h ⊢
    by_cases e : b = x
    · rw [if_pos e]; simp
    · rw [if_neg e] at h ⊢
      have := cutB_len l x h
      simp; omega
theorem cutB_len1 : ∀ (l : List UInt8) (x : UInt8), (cutB l x).1.length ≤ l.length
  | [], _ => by simp [cutB]
  | b :: l, x => by
    unfold cutB
    by_cases e : b = x
    · rw [if_pos e]; simp
    · rw [if_neg e]
      have := cutB_len1 l x
      simp; omega
/-- how long what is left may still take -/
def left (pb : Nat) (m : Value) (w : World) : Nat := match m with
  | .bool true => (match w.cell? ⟨pb, 0, none⟩ with
    | some (.slice _ n _) => n + 1
    | _ => 0)
  | _ => 0

set_option maxRecDepth 100000 in
set_option maxHeartbeats 1000000 in
theorem between1 (n0 pb : Nat) (A : Option Addr) (n c : Nat) (l : List UInt8) (w : World) (hb0 : Bx w pb 22 (.slice A n c)) (hR0 : Rd w A n c l) (hA0 : PlcN n0 A c) (hn : n ≤ 16777216) (hpb : n0 ≤ pb) :
    SeqOf Try.prog 21 #[.pointer (some ⟨pb, 0, none⟩)] (fun k => k ≠ pb) (fun k => k < n0 ∨ k = pb) (parts l) w := by
  intro m ly J Jx W hW hJ hY h0
  have hb1 := hb0.same hW (.inr rfl)
  have hR1 := hR0.same hA0 hW fun k hk => .inl hk
  have HJ := Lib.hid hJ
  have HY := Lib.hid hY
  have H0 := Lib.hid h0
  have HA := Lib.hid hA0
  have HR := Lib.hid hR1
  clear hJ hY h0 hA0 hR1 hR0 hb0 hW
  go_enter Try.func21, Try.ntmps21
  go_wp2_with fail
  go_loopw [3] (fun mo wr => Hid (W.heap.size ≤ wr.heap.size ∧ ((mo = .bool true ∧ ∃ A n c l1 d, Bx wr pb 22 (.slice A n c) ∧ Rd wr A n c l1 ∧ PlcN n0 A c ∧ n ≤ 16777216 ∧ parts l = d ++ parts l1 ∧ J d.length wr) ∨ (mo = .bool false ∧ J (parts l).length wr)))) (fun mo wr => left pb mo wr)
  case atStart => exact ⟨Nat.le_refl _, .inl ⟨rfl, A, n, c, l, [], hb1, HR.out, HA.out, hn, rfl, H0.out⟩⟩
  case round =>
    rcases hrel with ⟨hz, ⟨rfl, A, n, c, l1, d, hb, hR, hA, hn, hp, hj⟩ | ⟨rfl, hj⟩⟩
    · have HZ := Lib.hid hz
      have HB := Lib.hid hb
      have HR := Lib.hid hR
      have HA := Lib.hid hA
      have HP := Lib.hid hp
      have HJ1 := Lib.hid hj
      have bc := hb.cell
      have bl := hb.lt
      clear hz hb hR hA hp hj
      go_upto_region 3 with fail
      have hpc := parts_cut l1
      have hcl := cutB_len l1 0x7e
      have hql := cutB_len1 l1 0x7e
      have hll := HR.out.len
      have hcut := bcut_any n0 A n c wr.heap.size l1 0x7e
      obtain ⟨⟨q, t, f⟩, hcc⟩ : ∃ cc, cc = cutB l1 0x7e := ⟨_, rfl⟩
      rw [← hcc] at hpc hcl hql hcut
      clear hcc
      dsimp only at hpc hcl hql hcut
      have HPC := Lib.hid hpc
      have HCL := Lib.hid hcl
      have HLL := Lib.hid hll
      have hql : q.length ≤ 16777216 := by omega
      have s1 : Same (fun _ => True) wr (wr.alloc (.cells #[.int .u8 126] 5)) := (Same.refl _ _).alloc _
      refine (hcut _ (HR.out.same HA.out s1 fun _ _ => trivial) HA.out (Bx.new _ _ _).cell).mono ?_
      clear hcut hpc hcl hll
      rintro e w1 ⟨A1, c1, A2, c2, rfl, hA1, hA2, hR1, hR2, hB⟩
      have s2 : Same (fun _ => True) wr w1 := s1.trans (Same.of_below hB fun _ h _ => h)
      have HA2 := Lib.hid hA2
      have HR2 := Lib.hid (hR2.below hB)
      have HR1 := Lib.hid (hR1.below hB)
      have S2 := Lib.hid s2
      clear s1 hB hA1 hA2 hR1 hR2 s2
      go_upto_region 3 with fail
      refine (wpIn_wide (n := m + 1)).1 (wpIn_region_lit ?_)
      refine list_cut (r := none) 4 rfl ?_
      dsimp only [List.take, List.drop]
      go_wp2_with (first
        | ((with_reducible show wpList _ _ _ (⟨some 18, _, _, _, _, _⟩ :: _) _ _); refine wpList_app _ rfl elemB (.tmp 16) (.tmp 17) rfl rfl (own_empty w1 w1.heap.size _ _ 1 rfl (Nat.le_refl _)) rfl ((HR1.out.stays (Stays.alloc w1 _)).src) q.length (by omega) (by omega) (by simp) ?_; intro A3 c3 w3 hown3 hg3 hat3))
      have hb3 : Below w1.heap.size w1 w3 := below_app' ((Below.refl w1.heap.size w1).alloc (Nat.le_refl _) _) (own_empty w1 w1.heap.size _ _ 1 rfl (Nat.le_refl _)) hg3 (Nat.le_refl _) (by simp)
      have s3 : Same (fun _ => True) w1 w3 := Same.of_below hb3 fun _ h _ => h
      have s13 := S2.out.trans s3
      have z3 := s13.size
      have hz0 := HZ.out
      have z2 := S2.out.size
      have hsl : Sl w3 wr.heap.size 5 (.slice A3 q.length c3) q.length (bs q) := by
        have := (Sl.of_row hown3).base (B' := wr.heap.size) fun k hk => by have := ((Sl.of_row hown3).lt k hk).1; omega
        simpa using this
      have hdq : (parts l)[d.length]? = some q := by
        rw [HP.out, HPC.out]
        cases f <;> simp
      have hyy := HY.out _ _ _ _ _ _ HJ1.out s13 hz0 hdq hsl
      have S13 := Lib.hid s13
      have HR3 := Lib.hid (HR2.out.stays (Stays.below hb3))
      have HDL : Hid (d.length + 1 ≤ (parts l).length ∧ (f = false → d.length + 1 = (parts l).length) ∧ (f = true → parts l = (d ++ [q]) ++ parts t)) := by
        have h1 := HP.out
        rw [HPC.out] at h1
        refine ⟨?_, fun e => ?_, fun e => ?_⟩
        · have := (List.getElem?_eq_some_iff.1 hdq).1; omega
        · subst e; rw [h1]; simp
        · subst e; rw [h1]; simp
      clear hb3 s3 s13 hown3 hg3 hat3 hsl hdq
      refine list_yield (x := .tmp 18) (y := .tmp 15) (t := 22) rfl rfl rfl hyy ?_
      clear hyy
      rintro e w4 (⟨rfl, hj4, hs4⟩ | ⟨rfl, hj4⟩)
      · refine ⟨true, rfl, ?_⟩
        have hb4 : Bx w4 pb 22 (.slice A n c) := (HB.out.same S13.out trivial).same hs4 (.inr rfl)
        have z4 := hs4.size
        have hr5 : Rd (w4.setCell ⟨pb, 0, none⟩ (.slice A2 t.length c2)) A2 t.length c2 t :=
          (HR3.out.same HA2.out hs4 fun k hk => .inl hk).same HA2.out (S := fun k => k ≠ pb) ((Same.refl _ _).setCell (by simp) _) fun k hk => by omega
        have hj5 : J (d.length + 1) (w4.setCell ⟨pb, 0, none⟩ (.slice A2 t.length c2)) := HJ.out _ _ _ hj4 ((Same.refl _ _).setCell (by simp) _)
        have HB5 := Lib.hid (hb4.set (.slice A2 t.length c2))
        have HR5 := Lib.hid hr5
        have HJ5 := Lib.hid hj5
        have HZ5 : Hid (W.heap.size ≤ (w4.setCell ⟨pb, 0, none⟩ (.slice A2 t.length c2)).heap.size) := by show _ ≤ _; simp [World.setCell]; omega
        have bc4 := hb4.cell
        have bf4 := hb4.frozen
        have htn : f = true → t.length < n := fun e => by have := HCL.out e; have := HLL.out; omega
        have HTN := Lib.hid htn
        have hcm : ∀ u, left pb (.bool true) (w4.setCell ⟨pb, 0, none⟩ u) = left pb (.bool true) (w4.setCell ⟨pb, 0, none⟩ u) := fun _ => rfl
        have hl1 : left pb (.bool true) wr = n + 1 := by simp only [left, bc]
        have hl5 : left pb (.bool true) (w4.setCell ⟨pb, 0, none⟩ (.slice A2 t.length c2)) = t.length + 1 := by simp only [left, HB5.out.cell]
        have HL1 := Lib.hid hl1
        have HL5 := Lib.hid hl5
        clear hcm hr5 hj5 hb4 hs4 hj4 htn hl1 hl5 bc bl
        refine list_cut (r := none) 1 rfl ?_
        dsimp only [List.take, List.drop]
        go_wp2_with fail
        rw [wpListIn]
        dsimp only [Exit.then]
        cases f
        · go_wp2_with fail
          go_roundw
          case rel => exact ⟨HZ5.out, .inr ⟨rfl, by rw [← HDL.out.2.1 rfl]; exact HJ5.out⟩⟩
          case measure => rw [HL1.out]; simp [left]
        · go_wp2_with fail
          go_roundw
          case rel => exact ⟨HZ5.out, .inl ⟨rfl, A2, _, c2, t, d ++ [q], HB5.out, HR5.out, HA2.out, by have := HTN.out rfl; omega, HDL.out.2.2 rfl, by simpa using HJ5.out⟩⟩
          case measure => rw [HL1.out, HL5.out]; have := HTN.out rfl; omega
      · refine ⟨false, rfl, ?_⟩
        refine list_cut (r := none) 1 rfl ?_
        dsimp only [List.take, List.drop]
        go_wp2_with fail
        rw [wpListIn]
        dsimp only [Exit.then]
        go_wp2_with fail
        refine bodyPost_ret (results_none rfl _ _ _) rfl ?_
        exact ⟨⟨_, rfl⟩, .inr ⟨_, HDL.out.1, hj4⟩⟩
    · clear hz
      go_wp2_with fail
      go_end0
      exact ⟨⟨_, rfl⟩, .inl hj⟩
end Go.Proofs.Ytiffbmnenbnglaa
