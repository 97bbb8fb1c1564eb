/-
  STATES: the walk of store.From.
-/
import Derived.Test.YtcnlgcmooegfkaaSnapApp
import Derived.Test.YtcnlgcmooegfkaaSnapNew
import Derived.Deep.MidRow
namespace Go.Proofs.Ytcnlgcmooegfkaa
open Go.RowKit Mg Sn

/-- why a store can't be made of a state -/
def fromC (s : St) : Int :=
  if ¬ (0 ≤ s.self ∧ s.self ≤ 63) then 1
  else if (nextOk s && holdB s && selfB s && marksB none s.sn) = false then 2
  else if 256 < gaps s.sn ∨ 256 < s.hd.length ∨ 1048576 < Sn.bytes s.hd then 6
  else 0
theorem okM_may (self ep : Int) (ids : List Mid) (m : Ms) : okM self ep ids m = decide (mayE self ep ids m.i m.l.length = 0) := by
  unfold okM mayE
  by_cases h1 : chkM m.i m.l.length = 0
  · by_cases h2 : m.i.d = self
    · simp [h1, h2]
    · by_cases h3 : m.i.o = self ∧ ep < m.i.e
      · simp [h1, h2, h3]
      · by_cases h4 : m.i ∈ ids <;> simp [h1, h2, h3, h4] <;> exact fun a => Int.not_lt.1 fun b => h3 ⟨a, b⟩
  · simp [h1]
theorem alloc_there (w : World) (cs : Array Value) (T : TypeId) (n : Nat) (h : n = cs.size) : (w.alloc (.cells cs T)).there w.heap.size 0 n := fun j hj => by
  have hg := heap_alloc_new w (.cells cs T); refine ⟨?_, frozen_of_row _ _ _ _ _ hg⟩; rw [cell_of_cells hg, Nat.zero_add, Array.getElem?_eq_getElem (by omega)]; rfl
/-- a whole row goes into a block that was just laid -/
theorem wpList_store_fresh {P : Program} {ops : Array Oper} {rest : List Oper} {op : Oper} {a : Act} {w : World} {Q : Exit → Act → World → Prop} (hgd : op.guard = none) (ty : TypeId) (x y : Operand) (ho : op.op = .store ty x y)
    (cs : Array Value) (T : TypeId) (vs : List Value) (hx : a.eval x = .pointer (some ⟨w.heap.size, 0, none⟩)) (hy : a.eval y = .agg vs.toArray) (hl : vs.length = cs.size)
    (hi : (P.info? ty).map (·.size) = some vs.toArray.size) (h1 : vs.toArray.all (·.oneCell') = true)
    (h : ∀ W, Below w.heap.size w W → W.heap.size = w.heap.size + 1 → W.rangeAt w.heap.size 0 vs → wpList P ops Q rest (a.put op.dst undef) W) : wpList P ops Q (op :: rest) a (w.alloc (.cells cs T)) := by
  have ht := alloc_there w cs T vs.toArray.size (by rw [List.size_toArray, hl]); have hb : ∀ (us : List Value) (o : Nat) (w' : World), Below w.heap.size w w' → w'.heap.size = w.heap.size + 1 → Below w.heap.size w (w'.setCells w.heap.size o us) ∧ (w'.setCells w.heap.size o us).heap.size = w.heap.size + 1 := by
    intro us
    induction us with
    | nil => exact fun _ _ h1 h2 => ⟨h1, h2⟩
    | cons u us ih => exact fun o w' h1 h2 => ih (o + 1) _ (h1.setCell (p := ⟨w.heap.size, o, none⟩) (Nat.le_refl _) u) (by simpa using h2)
  have hh := hb vs 0 _ ((Below.refl _ _).alloc (Nat.le_refl _) (.cells cs T)) (by simp); refine wpList_store_mid hgd ty x y ho w.heap.size 0 vs.toArray hx hy ht hi h1 ?_; have e : vs.toArray.toList = vs := by simp
  rw [e]; exact h _ hh.1 hh.2 (World.rangeAt_setCells_same _ _ _ _ (by simpa using ht))
theorem exec_loadm {P : Program} {w : World} {o : Oper} {a : Act} {ty : TypeId} {p v : Value} (x : Operand) (ho : o.op = .load ty x) (hx : a.eval x = p) (hr : (Instr.loadAt ty p).run P w = .ok v w) : (execOp a.eval o).run P w = .ok (.value v) w := by
  unfold execOp; simp only [ho, hx, Sem.run_bind, Sem.run_pure, Result.andThen_ok, hr]
theorem exec_neq {P : Program} {w : World} {o : Oper} {a : Act} {ty ty' : TypeId} {p q v : Value} (x y : Operand) (ho : o.op = .binOp .neq ty x y ty') (hx : a.eval x = p) (hy : a.eval y = q) (hg : (eqGuard .neq ty x y p q).run P w = .ok () w) (hr : (binOp .neq ty p q).run P w = .ok v w) : (execOp a.eval o).run P w = .ok (.value v) w := by
  unfold execOp; simp [ho, hx, hy, Sem.run_bind, hg, hr]
def FromP (R : Int) (w : World) (e : Ending) (w' : World) : Prop := ∃ o, e = .returned (.tuple #[.pointer o, .int .i64 R]) ∧ Below w.heap.size w w'

set_option maxRecDepth 100000 in
set_option maxHeartbeats 4000000 in
theorem from_any (s : St) (v : Sv) (B : Nat) (w : World) (hR : RdS w B v s) :
    Calls Try.prog 28 #[.agg #[.int .i64 256, .int .i64 1048576, .int .i64 256], stv s v] w (FromP (fromC s) w) := by
  obtain ⟨R, hRR⟩ : ∃ R, R = fromC s := ⟨_, rfl⟩; rw [← hRR]; have HRR := Lib.hid hRR; have HN := Lib.hid hR; have hb1 := hR.nx.big; have hb2 := hR.hd.big; have hb3 := hR.sn.big; clear hRR hR; have HNX : Hid (∀ w' : World, Below w.heap.size w w' → Calls Try.prog 48 #[stv s v] w' fun e w'' => e = .returned (.bool (nextOk s)) ∧ Below w'.heap.size w' w'') := fun w' h => snexts_any s v B w' (HN.out.below h)
  obtain ⟨self, ep, nx, ml, sn⟩ := s; obtain ⟨A1, n1, c1, A2, n2, c2, A3, n3, c3⟩ := v; simp only [stv] at HNX hb1 hb2 hb3 ⊢; unfold FromP
  go_enter Try.func28, Try.ntmps28
  go_wp2_with fail
  obtain ⟨W0, hW0⟩ : ∃ W0, W0 = (w.alloc (.cells #[.int .i64 256, .int .i64 1048576, .int .i64 256] 68)).alloc (.cells #[.int .i64 self, .int .i64 ep, .slice A1 n1 c1, .slice A2 n2 c2, .slice A3 n3 c3] 26) := ⟨_, rfl⟩; rw [← hW0]; have hs0 : W0.heap.size = w.heap.size + 2 := by rw [hW0]; simp
  have hB0 : Below w.heap.size w W0 := by rw [hW0]; exact ((Below.refl _ _).alloc (Nat.le_refl _) _).alloc (by simp) _
  have g0 : W0.heap[w.heap.size]? = some (.cells #[.int .i64 256, .int .i64 1048576, .int .i64 256] 68 (0, 0)) := by rw [hW0]; exact heap_alloc2_old _ _ _
  have g1 : W0.heap[w.heap.size + 1]? = some (.cells #[.int .i64 self, .int .i64 ep, .slice A1 n1 c1, .slice A2 n2 c2, .slice A3 n3 c3] 26 (0, 0)) := by rw [hW0]; exact heap_alloc2_new _ _ _
  have G0 := Lib.hid g0; have G1 := Lib.hid g1; have HB0 := Lib.hid hB0; clear hW0 g0 g1 hB0
  by_cases hsf : 0 ≤ self ∧ self ≤ 63
  rotate_left
  · have HRF : Hid (R = 1) := by show R = 1; rw [HRR.out, fromC, if_pos hsf]
    refine (store_bad self hsf W0).mono ?_; rintro e w1 ⟨rfl, hb⟩; have HB1 := Lib.hid (HB0.out.trans (hb.mono (by omega))); clear hb hsf
    go_wp2_with fail
    go_ret2
    first
      | exact ⟨_, by rw [HRF.out]; rfl, HB1.out⟩
      | exact ⟨⟨_, by rw [HRF.out]; rfl⟩, HB1.out⟩
  refine (store_new self hsf.1 hsf.2 W0).mono ?_; rintro e w1 ⟨s, hm, set, rfl, hs1, hm1, hmm, hss, hb⟩; have HB1 := Lib.hid (HB0.out.trans (hb.mono (by omega))); have hS1 : StoreAt w1 s self 256 1048576 256 0 (List.replicate 64 0) hm 0 0 set := ⟨by simp, hss⟩; have HS1 := Lib.hid hS1; have HM1 : Hid (MapAt w1 hm []) := hmm; have hsl := hS1.lt; have hml := HM1.out.lt; have hz1 := hb.size; have hsm : s ≠ hm := by
    rintro rfl; rw [hss] at hmm; injection hmm with hmm
    cases hmm
  have G0 := Lib.hid ((hb.block w.heap.size (by omega)).trans G0.out); have G1 := Lib.hid ((hb.block (w.heap.size + 1) (by omega)).trans G1.out); have a0 := cell_of_cells G1.out 0; have a1 := cell_of_cells G1.out 1; have a2 := cell_of_cells G1.out 2; have a3 := cell_of_cells G1.out 3; have a4 := cell_of_cells G1.out 4; simp at a0 a1 a2 a3 a4; clear hb hss hmm hS1
  go_wp2_with fail
  refine (HNX.out w1 HB1.out).mono ?_; rintro e w2 ⟨rfl, hb⟩; have hz2 := hb.size
  by_cases hnx : nextOk ⟨self, ep, nx, ml, sn⟩ = true
  rotate_left
  · have hnf : nextOk ⟨self, ep, nx, ml, sn⟩ = false := by simpa using hnx
    have HRF : Hid (R = 2) := by show R = 2; rw [HRR.out, fromC, if_neg (by simpa using hsf), if_pos (by rw [hnf]; rfl)]
    have HB2 := Lib.hid (HB1.out.trans (hb.mono (by omega))); rw [hnf]; clear hb hnx hnf a0 a1 a2 a3 a4
    go_wp2_with fail
    go_ret2
    first
      | exact ⟨_, by rw [HRF.out]; rfl, HB2.out⟩
      | exact ⟨⟨_, by rw [HRF.out]; rfl⟩, HB2.out⟩
  have HS2 := Lib.hid (HS1.out.keep (hb.block s hsl)); have HM2 := Lib.hid (HM1.out.keep (hb.block hm hml)); have G0 := Lib.hid ((hb.block w.heap.size (by omega)).trans G0.out); have G1 := Lib.hid ((hb.block (w.heap.size + 1) (by omega)).trans G1.out); have a0 := cell_of_cells G1.out 0; have a1 := cell_of_cells G1.out 1; have a2 := cell_of_cells G1.out 2; have a3 := cell_of_cells G1.out 3; have a4 := cell_of_cells G1.out 4; have d4 : w2.cell? ⟨s, 4, none⟩ = some (.int .i64 0) := (HS2.out.cell 4).trans (stC_lo 4 (by omega)); have e4 := HS2.out.free 4; simp at a0 a1 a2 a3 a4; have HB2 := Lib.hid (HB1.out.trans (hb.mono (by omega))); have HNX2 := Lib.hid hnx; rw [hnx]; clear hb hnx
  go_wp2_with fail
  obtain ⟨W3, hW3⟩ : ∃ W3, W3 = w2.setCell ⟨s, 4, none⟩ (.int .i64 ep) := ⟨_, rfl⟩; rw [← hW3]; have hs3 : W3.heap.size = w2.heap.size := by rw [hW3]; simp
  have hO3 : ∀ j, j ≠ s → W3.heap[j]? = w2.heap[j]? := fun j hj => by rw [hW3]; exact heap_setCell_other w2 ⟨s, 4, none⟩ j _ hj
  have HS3 : Hid (StoreAt W3 s self 256 1048576 256 ep (List.replicate 64 0) hm 0 0 set) := by show StoreAt _ _ _ _ _ _ _ _ _ _ _ _; rw [hW3]; exact HS2.out.setEp ep
  have HB3 : Hid (Below w.heap.size w W3) := by show Below _ _ _; rw [hW3]; exact HB2.out.setCell (p := ⟨s, 4, none⟩) (by show w.heap.size ≤ s; omega) _
  have HM3 := Lib.hid (HM2.out.keep (hO3 hm (by omega))); have G0 := Lib.hid ((hO3 w.heap.size (by omega)).trans G0.out); have G1 := Lib.hid ((hO3 (w.heap.size + 1) (by omega)).trans G1.out); have HNB : Hid (nextB self ep (-1) nx = true) := by
    have h := HNX2.out; simp only [nextOk, Bool.and_eq_true] at h; exact h.1
  clear hW3 hO3 a0 a1 a2 a3 a4 d4 e4
  go_loopw [37] (fun i wr => ∃ k : Nat, i = .int .i64 k ∧ k ≤ n1 ∧ Hid (StoreAt wr s self 256 1048576 256 ep (usedOf (nx.take k) (List.replicate 64 0)) hm 0 0 set ∧ MapAt wr hm [] ∧ Kept (fun j => j = s ∨ j = hm) W3 wr)) (fun i _ => n1 - (intOf i).toNat)
  case atStart => exact ⟨0, rfl, Nat.zero_le _, HS3.out, HM3.out, Kept.refl _ _⟩
  case round =>
    obtain ⟨k, rfl, hk, hS, hM, hK⟩ := hrel; have HS := Lib.hid hS; have HM := Lib.hid hM; have HK := Lib.hid hK; have hzr := hK.size; have HBr : Hid (Below w.heap.size w wr) := HB3.out.trans (hK.below (by omega) (fun i hi => by omega)); have hsr := hS.lt; have hmr := hM.lt; clear hS hM hK
    by_cases hlt : k < n1
    · obtain ⟨b, off, x, cs, rfl, hB, hbl, hx, hcs, hlen, hcell⟩ := (HN.out.nx.below keeps_nx HBr.out).at' hlt; unfold ENx at hcs; subst hcs; have c0 := hcell 0 _ rfl; have c1 := hcell 1 _ rfl; rw [Nat.add_zero] at c0; have hxd := (nextB_in HNB.out x (List.mem_of_getElem? hx)).2; have HX := Lib.hid hx; obtain ⟨d, cn⟩ := x; simp only at c0 c1 hxd; obtain ⟨D, rfl⟩ : ∃ D : Nat, d = D := ⟨d.toNat, (Int.toNat_of_nonneg hxd.1).symm⟩; have hD : D < 64 := by omega
      have hDI : (D : Int) < 64 := by omega
      have hD0 : (0 : Int) ≤ (D : Int) := by omega
      clear hcell hlen hx hxd
      go_wp2_with fail
      obtain ⟨W, hW⟩ : ∃ W, W = wr.alloc (.cells #[.int .i64 (D : Int), .int .i64 cn] 50) := ⟨_, rfl⟩; rw [← hW]; have hWs : W.heap.size = wr.heap.size + 1 := by rw [hW]; simp
      have hbW : wr.heap.size < W.heap.size := by omega
      have i0 : W.cell? ⟨wr.heap.size, 0, none⟩ = some (.int .i64 (D : Int)) := by rw [hW]; exact World.cell?_alloc_mark wr _ _ _ 0
      have i1 : W.cell? ⟨wr.heap.size, 1, none⟩ = some (.int .i64 cn) := by rw [hW]; exact World.cell?_alloc_mark wr _ _ _ 1
      have hWW : Below wr.heap.size wr W := by rw [hW]; exact (Below.refl _ _).alloc (Nat.le_refl _) _
      have HWW := Lib.hid hWW; clear hW hWW c0 c1; refine Free.wp_last (I := fun w' => Below W.heap.size W w') (Gr := fun w1 w2 => Below w1.heap.size w1 w2) (by kernel_rfl) (by simp) (by kernel_rfl) (by kernel_rfl) (Below.refl _ _).drew ?_
      dsimp only [List.dropLast, List.getLast]
      apply Free.sv; intro a w1 hI hp
      · have e6 := hp.sl 6; simp at e6; refine ⟨Free.wn, ?_⟩; clear hp; go_simp; rfl
      apply Free.sv; intro a w1 hI hp
      · have e9 := hp.sl 9; simp at e9; refine ⟨Free.wn, ?_⟩; clear hp; go_simp; rfl
      apply Free.sv; intro a w1 hI hp
      · have e42 := hp.b 1 0; have ki0 := (hI.cell (p := ⟨wr.heap.size, 0, none⟩) hbW).trans i0; refine ⟨Free.wn, ?_⟩; clear hp; go_simp; rfl
      apply Free.sv; intro a w1 hI hp
      · have e9 := hp.sl 9; simp at e9; refine ⟨Free.wn, ?_⟩; clear hp; go_simp; rfl
      apply Free.sv; intro a w1 hI hp
      · have e44 := hp.b 3 0; have ki1 := (hI.cell (p := ⟨wr.heap.size, 1, none⟩) hbW).trans i1; refine ⟨Free.wn, ?_⟩; clear hp; go_simp; rfl
      apply Free.sv; intro a w1 hI hp
      · have e41 := hp.b 0 4; refine ⟨Free.wn, ?_⟩; clear hp; go_simp; rfl
      apply Free.sv; intro a w1 hI hp
      · have e46 := hp.b 5 0; refine ⟨Free.wn, ?_⟩; clear hp; go_simp; rfl
      apply Free.sv; intro a w1 hI hp
      · have e47 := hp.b 6 0; have e43 := hp.b 2 4; refine ⟨Free.wn, ?_⟩; clear hp; go_simp; rfl
      refine Free.Seq.done (by simp) (fun wz hIz => ?_); simp only [List.reverse_cons, List.reverse_nil, List.nil_append, List.cons_append, Free.All, Free.eqF, forall_eq]
      skip
      simp only [Free.putL, Act.put, List.setIfInBounds_toArray, List.set_cons_zero, List.set_cons_succ]; refine ⟨trivial, ?_⟩; have hb9 := HWW.out.trans (hIz.mono (by omega)); have hS9 := HS.out.keep (hb9.block s hsr); have HS9 := Lib.hid hS9; have HM9 := Lib.hid (HM.out.keep (hb9.block hm hmr)); have HK9 := Lib.hid (HK.out.trans (Kept.all hb9) (S' := fun j => j = s ∨ j = hm) (fun j _ h => h)); obtain ⟨U, hU⟩ : ∃ U, U = (usedOf (nx.take k) (List.replicate 64 0)).getD D 0 := ⟨_, rfl⟩; have a5 : wz.cell? ⟨s, 5 + D, none⟩ = some (.int .i64 U) := ((hS9.cell (5 + D)).trans (stC_mid hS9.1 D hD)).trans (by rw [hU]); have b5 : wz.frozen? ⟨s, 5 + D, none⟩ = false := hS9.free (5 + D); have htk : nx.take (k + 1) = nx.take k ++ [⟨(D : Int), cn⟩] := by rw [List.take_add_one, HX.out]; rfl
      have hku : usedOf (nx.take (k + 1)) (List.replicate 64 0) = (usedOf (nx.take k) (List.replicate 64 0)).set D cn := by
        rw [htk, usedOf_snoc, Int.toNat_natCast]
      have HKU := Lib.hid hku; clear hS9 hb9 hIz hU htk hku
      go_wp2_with fail
      exact ⟨⟨k + 1, by simp, by omega, by rw [HKU.out]; exact HS9.out.setUsed D hD cn, HM9.out.keep (heap_setCell_other _ ⟨s, 5 + D, none⟩ _ _ hsm.symm), HK9.out.setCell (.inl (.inl rfl)) _⟩, by simp only [intOf]; omega⟩
    have hkn : k = n1 := by omega
    subst hkn; have htn : nx.take k = nx := List.take_of_length_le (by have := HN.out.nx.len; simp only at this; omega); obtain ⟨U0, hU0⟩ : ∃ U0, U0 = usedOf nx (List.replicate 64 0) := ⟨_, rfl⟩; have hSr := HS.out; rw [htn, ← hU0] at hSr; have HS := Lib.hid hSr; have HU0 := Lib.hid hU0; have G0 := Lib.hid ((HK.out.block w.heap.size (by omega) (by omega)).trans G0.out); have G1 := Lib.hid ((HK.out.block (w.heap.size + 1) (by omega) (by omega)).trans G1.out); have r5 : wr.rangeAt s 5 (is64 U0) := fun j u hu => by
      have hj : j < 64 := by have := (List.getElem?_eq_some_iff.1 hu).1; simpa [is64, hSr.1] using this
      rw [hSr.cell, stC_mid hSr.1 j hj, ← hu, is64, List.getElem?_map, List.getD_eq_getElem?_getD, List.getElem?_eq_getElem (by rw [hSr.1]; exact hj)]; rfl
    have hl64 : (is64 U0).length = 64 := by simp [is64, hSr.1]
    have hinf : (Try.prog.info? 95).map (·.size) = some (is64 U0).length := by rw [hl64]; kernel_rfl
    have hinf2 : (Try.prog.info? 95).map (·.size) = some (is64 U0).toArray.size := by rw [List.size_toArray, hl64]; kernel_rfl
    have hone : (is64 U0).toArray.all (·.oneCell') = true := all_oneCell_toArray (by intro u hu; simp only [is64, List.mem_map] at hu; obtain ⟨z, _, rfl⟩ := hu; rfl); have R5 := Lib.hid r5; have HL64 := Lib.hid hl64; have HINF := Lib.hid hinf; have HINF2 := Lib.hid hinf2; have HONE := Lib.hid hone; clear htn hSr hU0 r5 hl64 hinf hinf2 hone; have htz : (is64 U0).length = 64 := HL64.out
    go_wp2_with (first | (refine wpList_load_mid rfl 95 _ rfl s 5 rfl (is64 U0) _ R5.out Try.underlying95 rfl HINF.out ?_) | (refine wpList_store_fresh rfl 95 _ _ rfl _ _ (is64 U0) rfl rfl HL64.out HINF2.out HONE.out ?_; intro W4 hb4 hs4 hr4) | fail)
    have hmr4 := hmr; have HS4 := Lib.hid (HS.out.keep (hb4.block s hsr)); have HM4 := Lib.hid (HM.out.keep (hb4.block hm hmr)); have HR4 := Lib.hid hr4; have HB4 := Lib.hid (HBr.out.trans (hb4.mono (by omega))); have G0 := Lib.hid ((hb4.block w.heap.size (by omega)).trans G0.out); have G1 := Lib.hid ((hb4.block (w.heap.size + 1) (by omega)).trans G1.out); have a3 := cell_of_cells G1.out 3; simp at a3; have hmul : IntKind.i64.wrap (48 * (n2 : Int)) = 48 * (n2 : Int) := IntWalk.i64_in _ (by omega); have hsne : w.heap.size + 1 ≠ s := by omega
    have hb1 : w.heap.size + 1 < W4.heap.size := by omega
    have hs4' : s < W4.heap.size := by omega
    clear hb4 hr4 htz; refine Free.wp_seq2 (I := fun L w' => StoreAt w' s self (bif L 12 then (n2 : Int) else 256) (bif L 16 then 48 * (n2 : Int) else 1048576) 256 ep U0 hm 0 0 set ∧ Kept (fun j => j = s) W4 w') (Gr := fun _ _ => True) (by kernel_rfl) (by kernel_rfl) ⟨HS4.out, (Kept.refl _ _).drew⟩ ?_; refine Free.Seq2.val ?_ (fun _ => trivial) (fun _ _ h => h) (fun a w1 L hI hp => ?_) ?_; rotate_left
    · have e6 := hp.sl 6; simp at e6; refine ⟨Free.wn, ?_⟩; clear hp; go_simp; rfl
    refine Free.Seq2.val ?_ (fun _ => trivial) (fun _ _ h => h) (fun a w1 L hI hp => ?_) ?_; rotate_left
    · have e6 := hp.sl 6; simp at e6; refine ⟨Free.wn, ?_⟩; clear hp; go_simp; rfl
    refine Free.Seq2.val ?_ (fun _ => trivial) (fun _ _ h => h) (fun a w1 L hI hp => ?_) ?_; rotate_left
    · have e3 := hp.sl 3; simp at e3; refine ⟨Free.wn, ?_⟩; clear hp; go_simp; rfl
    refine Free.Seq2.val ?_ (fun _ => trivial) (fun _ _ h => h) (fun a w1 L hI hp => ?_) ?_; rotate_left
    · have e56 := hp.b 2 0; have ka3 := (World.cell?_of_block (w := W4) (a := ⟨w.heap.size + 1, 3, none⟩) (hI.2.block (w.heap.size + 1) hb1 hsne)).trans a3; refine ⟨Free.wn, ?_⟩; clear hp; go_simp; rfl
    refine Free.Seq2.val ?_ (fun _ => trivial) (fun _ _ h => h) (fun a w1 L hI hp => ?_) ?_; rotate_left
    · have e57 := hp.b 3 0; refine ⟨Free.wn, ?_⟩; clear hp; go_simp; rfl
    refine Free.Seq2.val ?_ (fun _ => trivial) (fun _ _ h => h) (fun a w1 L hI hp => ?_) ?_; rotate_left
    · have e3 := hp.sl 3; simp at e3; refine ⟨Free.wn, ?_⟩; clear hp; go_simp; rfl
    refine Free.Seq2.val ?_ (fun _ => trivial) (fun _ _ h => h) (fun a w1 L hI hp => ?_) ?_; rotate_left
    · have e59 := hp.b 5 0; have ka3 := (World.cell?_of_block (w := W4) (a := ⟨w.heap.size + 1, 3, none⟩) (hI.2.block (w.heap.size + 1) hb1 hsne)).trans a3; refine ⟨Free.wn, ?_⟩; clear hp; go_simp; rfl
    refine Free.Seq2.val ?_ (fun _ => trivial) (fun _ _ h => h) (fun a w1 L hI hp => ?_) ?_; rotate_left
    · have e60 := hp.b 6 0; refine ⟨Free.wn, ?_⟩; clear hp; go_simp; rfl
    refine Free.Seq2.val ?_ (fun _ => trivial) (fun _ _ h => h) (fun a w1 L hI hp => ?_) ?_; rotate_left
    · have e61 := hp.b 7 0; refine ⟨Free.wn, ?_⟩; clear hp; go_simp; rfl
    refine Free.Seq2.val ?_ (fun _ => trivial) (fun _ _ h => h) (fun a w1 L hI hp => ?_) ?_; rotate_left
    · have e54 := hp.b 0 8; refine ⟨Free.wn, ?_⟩; clear hp; go_simp; rfl
    refine Free.Seq2.val ?_ (fun _ => trivial) (fun _ _ h => h) (fun a w1 L hI hp => ?_) ?_; rotate_left
    · have e63 := hp.b 9 0; refine ⟨Free.wn, ?_⟩; clear hp; go_simp; rfl
    refine Free.Seq2.val ?_ (fun _ => trivial) (fun _ _ h => h) (fun a w1 L hI hp => ?_) ?_; rotate_left
    · have e64 := hp.b 10 0; refine ⟨Free.wn, ?_⟩; clear hp; go_simp; rfl
    refine Free.Seq2.skip rfl (fun _ => True) (fun _ _ _ _ => trivial) (fun a w1 L hI hp => ?_) ?_
    · have e65 := hp.b 11 0; have e58 := hp.b 4 7; have kc : w1.cell? ⟨s, 1, none⟩ = _ := (hI.1.cell 1).trans (stC_lo 1 (by omega)); have kf := hI.1.free 1; simp at kc; refine ⟨Free.wn, w1.setCell ⟨s, 1, none⟩ (.int .i64 ((n2 : Int))), ?_, trivial, trivial, hI.1.setQh _, hI.2.setCell (.inl rfl) _⟩; clear hp hI; go_simp
    refine Free.Seq2.val ?_ (fun _ => trivial) (fun _ _ h => h) (fun a w1 L hI hp => ?_) ?_; rotate_left
    · have e55 := hp.b 1 11; refine ⟨Free.wn, ?_⟩; clear hp; go_simp; rfl
    refine Free.Seq2.val ?_ (fun _ => trivial) (fun _ _ h => h) (fun a w1 L hI hp => ?_) ?_; rotate_left
    · have e66 := hp.b 13 0; refine ⟨Free.wn, ?_⟩; clear hp; go_simp; rfl
    refine Free.Seq2.val ?_ (fun _ => trivial) (fun _ _ h => h) (fun a w1 L hI hp => ?_) ?_; rotate_left
    · have e67 := hp.b 14 0; refine ⟨Free.wn, ?_⟩; clear hp; go_simp; rfl
    refine Free.Seq2.skip rfl (fun _ => True) (fun _ _ _ _ => trivial) (fun a w1 L hI hp => ?_) ?_
    · have e68 := hp.b 15 0; have e62 := hp.b 8 7; have kc : w1.cell? ⟨s, 2, none⟩ = _ := (hI.1.cell 2).trans (stC_lo 2 (by omega)); have kf := hI.1.free 2; simp at kc; refine ⟨Free.wn, w1.setCell ⟨s, 2, none⟩ (.int .i64 (48 * (n2 : Int))), ?_, trivial, trivial, hI.1.setQb _, hI.2.setCell (.inl rfl) _⟩; clear hp hI; go_simp
    refine Free.Seq2.done (by simp) (fun wz L hIz hLz => ?_); simp only [List.reverse_cons, List.reverse_nil, List.nil_append, List.cons_append, Free.All, Free.eqF, forall_eq]; rintro xA - xB -; simp only [Free.putL, Act.put, List.setIfInBounds_toArray, List.set_cons_zero, List.set_cons_succ]; have hS5 := hIz.1; have hK5 := hIz.2; rw [hLz 12 (by decide), hLz 16 (by decide)] at hS5; simp only [cond_true] at hS5; have hz5 := hK5.size; obtain ⟨W5, hW5⟩ : ∃ W5, W5 = wz := ⟨_, rfl⟩; rw [← hW5] at hS5 hK5 hz5 ⊢; have HS5 := Lib.hid hS5; have HM5 := Lib.hid (HM4.out.keep (hK5.block hm (by omega) (by omega))); have HR5 : Hid (W5.rangeAt wr.heap.size 0 (is64 U0)) := fun j u hu => (World.cell?_of_block (w := W4) (a := ⟨wr.heap.size, 0 + j, none⟩) (hK5.block wr.heap.size (by omega) (by omega))).trans (HR4.out j u hu)
    have HB5 : Hid (Below w.heap.size w W5) := HB4.out.trans (hK5.below (by omega) (fun i hi => by omega)); have G0 := Lib.hid ((hK5.block w.heap.size (by omega) (by omega)).trans G0.out); have G1 := Lib.hid ((hK5.block (w.heap.size + 1) (by omega) (by omega)).trans G1.out); have a3 := cell_of_cells G1.out 3; simp at a3; clear hW5 hS5 hK5 hIz hLz; obtain ⟨T0, hT0⟩ : ∃ T0, T0 = wr.heap.size := ⟨_, rfl⟩; rw [← hT0] at HR5 ⊢; have hTs : T0 ≠ s := by omega
    have hTm : T0 ≠ hm := by omega
    have hT5 : T0 < W5.heap.size := by omega
    clear hT0
    dsimp only [Exit.then]
    go_wp2_with fail
    go_loopw [72] (fun i wq => ∃ j : Nat, i = .int .i64 j ∧ j ≤ n2 ∧ Hid (Kept (fun i => i = s ∨ i = hm) W5 wq ∧ StoreAt wq s self (n2 : Int) (48 * (n2 : Int)) 256 ep (useAll self ep (ml.take j) U0) hm (j : Int) (Sn.bytes (ml.take j) : Nat) set ∧ appB self ep [] ml = appB self ep ((ml.take j).map (·.i)) (ml.drop j) ∧ Sn.bytes (ml.take j) ≤ 48 * j ∧ ∃ kv, kv.length = j ∧ MapAt wq hm kv ∧ Places kv ((ml.take j).map (·.i)))) (fun i _ => n2 - (intOf i).toNat)
    case atStart => exact ⟨0, rfl, Nat.zero_le _, Kept.refl _ _, HS5.out, by simp, by simp [Sn.bytes], [], rfl, HM5.out, ⟨by simp, by simp⟩⟩
    case round =>
      obtain ⟨j, rfl, hj, hK, hS, ha, hby, kv, hkl, hM, hP⟩ := hrel; have HK := Lib.hid hK; have HSq := Lib.hid hS; have HA := Lib.hid ha; have HMq := Lib.hid hM; have HP := Lib.hid hP; have hzq := hK.size; have HBr2 : Hid (Below w.heap.size w wr) := HB5.out.trans (hK.below (by omega) (fun i hi => by omega)); have hsq := hS.lt; have hmq := hM.lt; clear hS hM hK ha hP
      by_cases hlt : j < n2
      · obtain ⟨b, off, x, cs, rfl, hB, hbl, hx, hcs, hlen, hcell⟩ := (HN.out.hd.below keeps_ms HBr2.out).at' hlt; unfold EMs at hcs; obtain ⟨Ad, cd, rfl, hrd⟩ := hcs; have c0 := hcell 0 _ rfl; have c1 := hcell 1 _ rfl; have c2 := hcell 2 _ rfl; have c3 := hcell 3 _ rfl; have c4 := hcell 4 _ rfl; rw [Nat.add_zero] at c0; have HX := Lib.hid hx; have HRD := Lib.hid hrd.1; obtain ⟨⟨io, id, ie, ic⟩, dl⟩ := x; simp only at c0 c1 c2 c3 c4; obtain ⟨nd, hnd⟩ : ∃ nd, nd = dl.length := ⟨_, rfl⟩; rw [← hnd] at c4; have HND := Lib.hid hnd; clear hcell hlen hx hrd hnd
        go_wp2_with fail
        obtain ⟨W, hW⟩ : ∃ W, W = wr.alloc (.cells #[.int .i64 io, .int .i64 id, .int .i64 ie, .int .i64 ic, .slice Ad nd cd] 54) := ⟨_, rfl⟩; rw [← hW]; have hWW : Below wr.heap.size wr W := by rw [hW]; exact (Below.refl _ _).alloc (Nat.le_refl _) _
        have htk : ml.take (j + 1) = ml.take j ++ [⟨⟨io, id, ie, ic⟩, dl⟩] := by rw [List.take_add_one, HX.out]; rfl
        have hap := apply_any ⟨io, id, ie, ic⟩ Ad nd cd dl W (by have := HRD.out.below hWW; rw [HND.out]; exact this) (HSq.out.keep (hWW.block s hsq)) (HMq.out.keep (hWW.block hm hmq)) HP.out (by omega) (fun h => by have := (chkM_in h).2.2.2; omega) (by omega) (by omega) (by omega) (by omega); unfold evv at hap; have hA2 := HA.out; rw [appB_drop HX.out, okM_may] at hA2; simp only at hA2; rw [← HND.out] at hA2; obtain ⟨X, hX⟩ : ∃ X, X = mayE self ep ((ml.take j).map (·.i)) ⟨io, id, ie, ic⟩ nd := ⟨_, rfl⟩; rw [← hX] at hA2; have hXC : X = 0 → nd ≤ 48 := by
          intro h; rw [hX, mayE] at h
          by_cases hc : chkM ⟨io, id, ie, ic⟩ nd = 0
          · exact (chkM_in hc).2.2.2
          · rw [if_pos hc] at h; exact absurd h hc
        have HXC := Lib.hid hXC; have HA2 := Lib.hid hA2; refine hap.mono ?_; rintro e9 w9 ⟨rfl, hK9, h9⟩; rw [← hX] at h9 ⊢; have HK9 := Lib.hid (HK.out.trans ((Kept.all hWW).trans hK9 (S' := fun i => i = s ∨ i = hm) (S := fun i => i = s ∨ i = hm) (fun i _ h => h)) (S' := fun i => i = s ∨ i = hm) (fun i _ h => h)); have HB9 : Hid (Below w.heap.size w w9) := HB5.out.trans (HK9.out.below (by omega) (fun i hi => by omega)); have H9 := Lib.hid h9; have HTK := Lib.hid htk; clear hA2 h9 hK9 hap hW hWW hX hXC htk c0 c1 c2 c3 c4
        by_cases hX0 : X = 0
        · subst hX0; obtain ⟨hS9, kv', hkl', hM9, hP9⟩ := H9.out rfl; have hA3 := HA2.out; simp only [decide_true, Bool.true_and] at hA3; have HS9 := Lib.hid hS9; have HM9 := Lib.hid hM9; have HP9 := Lib.hid hP9; have HA3 := Lib.hid hA3; clear hS9 hM9 hP9 hA3
          go_wp2_with fail
          refine ⟨⟨j + 1, by simp, by omega, HK9.out, ?_, ?_, ?_, kv', by omega, HM9.out, ?_⟩, by simp only [intOf]; omega⟩
          · have h := HS9.out; rw [HTK.out, useAll_snoc, bytes_append]; have e1 : ((j + 1 : Nat) : Int) = (j : Int) + 1 := by omega
            have e2 : ((Sn.bytes (ml.take j) + Sn.bytes [⟨⟨io, id, ie, ic⟩, dl⟩] : Nat) : Int) = (Sn.bytes (ml.take j) : Nat) + (nd : Int) := by
              rw [HND.out]; simp [Sn.bytes]
            rw [e1, e2]; exact h
          · rw [HTK.out, List.map_append]; exact HA3.out
          · rw [HTK.out, bytes_append]; have e2 : Sn.bytes [⟨⟨io, id, ie, ic⟩, dl⟩] = nd := by rw [HND.out]; simp [Sn.bytes]
            have := HXC.out trivial; omega
          · rw [HTK.out, List.map_append]; exact HP9.out
        · have HRF : Hid (R = 2) := by
            show R = 2
            rw [HRR.out, fromC, if_neg (by simpa using hsf), if_pos]; have h1 := HA2.out; rw [decide_eq_false hX0, Bool.false_and] at h1; simp only [holdB, h1, Bool.false_and, Bool.and_false]
          have hXb : (X != 0) = true := by simpa using hX0
          go_wp2_with fail
          go_ret2
          first
            | exact ⟨_, by rw [HRF.out]; rfl, HB9.out⟩
            | exact ⟨⟨_, by rw [HRF.out]; rfl⟩, HB9.out⟩
      have hjn : j = n2 := by omega
      subst hjn; have hmn : ml.take j = ml := List.take_of_length_le (by have := HN.out.hd.len; simp only at this; omega); obtain ⟨U1, hU1⟩ : ∃ U1, U1 = useAll self ep ml U0 := ⟨_, rfl⟩; have hS6 := HSq.out; have hA6 := HA.out; have hP6 := HP.out; rw [hmn, ← hU1] at hS6; rw [hmn] at hP6; rw [hmn, List.drop_eq_nil_of_le (by have := HN.out.hd.len; simp only at this; omega)] at hA6; have HA6 : Hid (appB self ep [] ml = true) := hA6.trans rfl; have HS := Lib.hid hS6; have HP6 := Lib.hid hP6; have HU1 := Lib.hid hU1; have G0 := Lib.hid ((HK.out.block w.heap.size (by omega) (by omega)).trans G0.out); have G1 := Lib.hid ((HK.out.block (w.heap.size + 1) (by omega) (by omega)).trans G1.out); have HR6 : Hid (wr.rangeAt T0 0 (is64 U0)) := fun i u hu => (World.cell?_of_block (w := W5) (a := ⟨T0, 0 + i, none⟩) (HK.out.block T0 hT5 (by omega))).trans (HR5.out i u hu)
      have a0 := cell_of_cells G0.out 0; have a1 := cell_of_cells G0.out 1; have a2 := cell_of_cells G0.out 2; simp at a0 a1 a2; have d1 := (hS6.cell 1).trans (stC_lo 1 (by omega)); have d2 := (hS6.cell 2).trans (stC_lo 2 (by omega)); have d3 := (hS6.cell 3).trans (stC_lo 3 (by omega)); simp at d1 d2 d3; have f1 := hS6.free 1; have f2 := hS6.free 2; have f3 := hS6.free 3; have hT6 : T0 < wr.heap.size := by omega
      clear hmn hS6 hA6 hP6 hU1
      go_wp2_with fail
      obtain ⟨W6, hW6⟩ : ∃ W6, W6 = ((wr.setCell ⟨s, 1, none⟩ (.int .i64 256)).setCell ⟨s, 2, none⟩ (.int .i64 1048576)).setCell ⟨s, 3, none⟩ (.int .i64 256) := ⟨_, rfl⟩; rw [← hW6]; have hs6 : W6.heap.size = wr.heap.size := by rw [hW6]; simp
      have hO6 : ∀ i, i ≠ s → W6.heap[i]? = wr.heap[i]? := fun i hi => by rw [hW6]; exact (heap_setCell_other _ ⟨s, 3, none⟩ i _ hi).trans ((heap_setCell_other _ ⟨s, 2, none⟩ i _ hi).trans (heap_setCell_other _ ⟨s, 1, none⟩ i _ hi))
      have hS6 : StoreAt W6 s self 256 1048576 256 ep U1 hm (j : Int) (Sn.bytes ml : Nat) set := by rw [hW6]; exact ((HS.out.setQh 256).setQb 1048576).setQg 256
      have HB6 : Hid (Below w.heap.size w W6) := by show Below _ _ _; rw [hW6]; exact ((HBr2.out.setCell (p := ⟨s, 1, none⟩) (by show w.heap.size ≤ s; omega) _).setCell (p := ⟨s, 2, none⟩) (by show w.heap.size ≤ s; omega) _).setCell (p := ⟨s, 3, none⟩) (by show w.heap.size ≤ s; omega) _
      have HM6 := Lib.hid (HMq.out.keep (hO6 hm (by omega))); have G0 := Lib.hid ((hO6 w.heap.size (by omega)).trans G0.out); have G1 := Lib.hid ((hO6 (w.heap.size + 1) (by omega)).trans G1.out); have HR7 : Hid (W6.rangeAt T0 0 (is64 U0)) := fun i u hu => (World.cell?_of_block (w := wr) (a := ⟨T0, 0 + i, none⟩) (hO6 T0 hTs)).trans (HR6.out i u hu)
      have HR8 : Hid (W6.rangeAt s 5 (is64 U1)) := fun i u hu => by
        have hj : i < 64 := by have := (List.getElem?_eq_some_iff.1 hu).1; simpa [is64, hS6.1] using this
        rw [hS6.cell, stC_mid hS6.1 i hj, ← hu, is64, List.getElem?_map, List.getD_eq_getElem?_getD, List.getElem?_eq_getElem (by rw [hS6.1]; exact hj)]; rfl
      have hU1l := hS6.1; have HS6 := Lib.hid hS6; have hU0l : U0.length = 64 := by have := HL64.out; simpa [is64] using this
      have HINF1 : Hid ((Try.prog.info? 95).map (·.size) = some (is64 U1).length) := by
        show _ = _
        rw [show (is64 U1).length = 64 by simp [is64, hU1l]]
        kernel_rfl
      have hs6' : s < W6.heap.size := by omega
      have hT7 : T0 < W6.heap.size := by omega
      have hm6' : hm < W6.heap.size := by omega
      clear hW6 hO6 hS6 a0 a1 a2 d1 d2 d3 f1 f2 f3; refine Free.wp_seq (I := fun w' => Below W6.heap.size W6 w') (Gr := fun w1 w2 => Below w1.heap.size w1 w2) (by kernel_rfl) (by kernel_rfl) (Below.refl _ _).drew ?_
      apply Free.sv; intro a w1 hI hp
      · have e6 := hp.sl 6; simp at e6; refine ⟨Free.wn, ?_⟩; clear hp; go_simp; rfl
      apply Free.sv; intro a w1 hI hp
      · have e86 := hp.b 0 0; refine ⟨Free.wn, ?_⟩; clear hp; go_simp; rfl
      apply Free.sv; intro a w1 hI hp
      · have e87 := hp.b 1 0; refine ⟨Free.wn, ?_⟩; clear hp; go_simp; rfl
      refine Free.Seq.val (.agg (is64 U1).toArray) (fun _ => Below.refl _ _) (fun a w1 hI hp => ?_) ?_
      · have e88 := hp.b 2 0; exact ⟨Free.wn, exec_loadm (.tmp 88) rfl (by simpa [Act.eval] using e88) (run_loadAt_mid (P := Try.prog) w1 s 5 95 (is64 U1) _ (fun i u hu => (hI.cell (p := ⟨s, 5 + i, none⟩) hs6').trans (HR8.out i u hu)) Try.underlying95 rfl HINF1.out)⟩
      refine Free.Seq.val (.agg (is64 U0).toArray) (fun _ => Below.refl _ _) (fun a w1 hI hp => ?_) ?_
      · have e10 := hp.sl 10; simp at e10; exact ⟨Free.wn, exec_loadm (.tmp 10) rfl (by simpa [Act.eval] using e10) (run_loadAt_mid (P := Try.prog) w1 T0 0 95 (is64 U0) _ (fun i u hu => (hI.cell (p := ⟨T0, 0 + i, none⟩) hT7).trans (HR7.out i u hu)) Try.underlying95 rfl HINF.out)⟩
      refine Free.Seq.val (.bool (!decide (U1 = U0))) (fun _ => Below.refl _ _) (fun a w1 hI hp => ?_) ?_
      · have e89 := hp.b 3 1; have e90 := hp.b 4 0; exact ⟨Free.wn, exec_neq (.tmp 89) (.tmp 90) rfl (by simpa [Act.eval] using e89) (by simpa [Act.eval] using e90) (by simp [eqGuard, Try.eqGuardType95]) (neq_used U1 U0 hU1l hU0l w1)⟩
      refine Free.Seq.done (by simp) (fun wz hIz => ?_); simp only [List.reverse_cons, List.reverse_nil, List.nil_append, List.cons_append, Free.All, Free.eqF, forall_eq]
      skip
      simp only [Free.putL, Act.put, List.setIfInBounds_toArray, List.set_cons_zero, List.set_cons_succ]; have hz7 := hIz.size; obtain ⟨W7, hW7⟩ : ∃ W7, W7 = wz := ⟨_, rfl⟩; rw [← hW7] at hIz hz7 ⊢; have HS7 := Lib.hid (HS6.out.keep (hIz.block s hs6')); have HM7 := Lib.hid (HM6.out.keep (hIz.block hm hm6')); have HB7 : Hid (Below w.heap.size w W7) := HB6.out.trans (hIz.mono (by omega)); have G0 := Lib.hid ((hIz.block w.heap.size (by omega)).trans G0.out); have G1 := Lib.hid ((hIz.block (w.heap.size + 1) (by omega)).trans G1.out); have hs7 : s < W7.heap.size := by omega
      have hm7 : hm < W7.heap.size := by omega
      have a4 := cell_of_cells G1.out 4; simp at a4; have hw7 : w.heap.size + 1 < W7.heap.size := by omega
      have hmlen : ml.length = j := by have := HN.out.hd.len; simp only at this; omega
      have HMLEN := Lib.hid hmlen; clear hW7 hIz hmlen
      dsimp only [Exit.then]
      by_cases hu : U1 = U0
      rotate_left
      · have hud : (!decide (U1 = U0)) = true := by simpa using hu
        have HRF : Hid (R = 2) := by
          show R = 2
          rw [HRR.out, fromC, if_neg (by simpa using hsf), if_pos]; have h1 : ml.all (leM self ep nx) = false := by
            cases h : ml.all (leM self ep nx) with
            | false => rfl
            | true => exact absurd (by rw [HU1.out, HU0.out]; exact (use_hold HNB.out HA6.out).2 h) hu
          simp only [holdB, h1, Bool.and_false, Bool.false_and]
        rw [hud]; clear hud hu
        go_wp2_with fail
        go_ret2
        first
          | exact ⟨_, by rw [HRF.out]; rfl, HB7.out⟩
          | exact ⟨⟨_, by rw [HRF.out]; rfl⟩, HB7.out⟩
      have hud : (!decide (U1 = U0)) = false := by simpa using hu
      have HHO : Hid (holdB ⟨self, ep, nx, ml, sn⟩ = true) := by
        show _ = true
        have h1 := (use_hold HNB.out HA6.out).1 (by rw [← HU0.out, ← HU1.out]; exact hu); simp only [holdB, h1, HA6.out, Bool.and_true]
      rw [hud]; clear hud hu
      go_wp2_with fail
      go_loopw [95] (fun i wr => ∃ p : Nat, i = .int .i64 p ∧ p ≤ n3 ∧ Hid (Below W7.heap.size W7 wr ∧ sn.all (fun m => decide (m.o ≠ self)) = (sn.drop p).all (fun m => decide (m.o ≠ self)))) (fun i _ => n3 - (intOf i).toNat)
      case atStart => exact ⟨0, rfl, Nat.zero_le _, Below.refl _ _, by simp⟩
      case round =>
        obtain ⟨p, rfl, hp, hK, ha⟩ := hrel; have HK3 := Lib.hid hK; have HA3 := Lib.hid ha; have hzr := hK.size; have HB8 : Hid (Below w.heap.size w wr) := HB7.out.trans (hK.mono (by omega)); have hw8 : w.heap.size + 1 < wr.heap.size := by omega
        have G0 := Lib.hid ((hK.block w.heap.size (by omega)).trans G0.out); have G1 := Lib.hid ((hK.block (w.heap.size + 1) (by omega)).trans G1.out); have b0 := cell_of_cells G1.out 0; simp at b0; clear hK ha
        by_cases hlt : p < n3
        · obtain ⟨b, off, x, cs, rfl, hB, hbl, hx, hcs, hlen, hcell⟩ := (HN.out.sn.below keeps_mk HB8.out).at' hlt; obtain ⟨Ad, cd, rfl, hrd⟩ := hcs; have c0 := hcell 0 _ rfl; have c1 := hcell 1 _ rfl; have c2 := hcell 2 _ rfl; have c3 := hcell 3 _ rfl; rw [Nat.add_zero] at c0; have hdr : sn.drop p = x :: sn.drop (p + 1) := by
            obtain ⟨h1, rfl⟩ := List.getElem?_eq_some_iff.1 hx; exact List.drop_eq_getElem_cons h1
          have HDR := Lib.hid hdr; obtain ⟨xo, xe, xu, xm⟩ := x; simp only at c0 c1 c2 c3; obtain ⟨nd, hnd⟩ : ∃ nd, nd = xm.length := ⟨_, rfl⟩; rw [← hnd] at c3; clear hcell hlen hx hrd hnd hdr; have HB9 : Hid (Below w.heap.size w (wr.alloc (.cells #[.int .i64 xo, .int .i64 xe, .int .i64 xu, .slice Ad nd cd] 58))) := HB8.out.alloc (by omega) _; have b0' : (wr.alloc (.cells #[.int .i64 xo, .int .i64 xe, .int .i64 xu, .slice Ad nd cd] 58)).cell? ⟨w.heap.size + 1, 0, none⟩ = some (.int .i64 self) := (((Below.refl wr.heap.size wr).alloc (Nat.le_refl _) _).cell (p := ⟨w.heap.size + 1, 0, none⟩) hw8).trans b0
          by_cases heq : xo = self
          · have hqb : (xo == self) = true := by simpa using heq
            have HRF : Hid (R = 2) := by
              show R = 2
              rw [HRR.out, fromC, if_neg (by simpa using hsf), if_pos]; have h1 : selfB ⟨self, ep, nx, ml, sn⟩ = false := by
                show sn.all _ = false
                rw [HA3.out, HDR.out]; simp [heq]
              rw [h1, Bool.and_false, Bool.false_and]
            clear heq
            go_wp2_with fail
            go_ret2
            first
              | exact ⟨_, by rw [HRF.out]; rfl, HB9.out⟩
              | exact ⟨⟨_, by rw [HRF.out]; rfl⟩, HB9.out⟩
          · have hqb : (xo == self) = false := by simpa using heq
            have HA4 : Hid (sn.all (fun m => decide (m.o ≠ self)) = (sn.drop (p + 1)).all (fun m => decide (m.o ≠ self))) := by
              show _ = _
              rw [HA3.out, HDR.out]; simp [heq]
            clear heq
            go_wp2_with fail
            exact ⟨⟨p + 1, by simp, by omega, HK3.out.alloc (by omega) _, HA4.out⟩, by simp only [intOf]; omega⟩
        have hpn : p = n3 := by omega
        subst hpn; have HSB : Hid (selfB ⟨self, ep, nx, ml, sn⟩ = true) := by
          show sn.all _ = true
          rw [HA3.out, List.drop_eq_nil_of_le (by have := HN.out.sn.len; simp only at this; omega)]; rfl
        have HS8 := Lib.hid (HS7.out.keep (HK3.out.block s hs7)); have HM8 := Lib.hid (HM7.out.keep (HK3.out.block hm hm7)); have b4 := cell_of_cells G1.out 4; have q2 := cell_of_cells G0.out 2; simp at b4 q2
        go_wp2_with fail
        refine (sfrom_any sn A3 p c3 B wr (HN.out.sn.below keeps_mk HB8.out)).mono ?_; rintro e9 w9 ⟨o9, rfl, hb9⟩; have hz9 := hb9.size; have HB9 := Lib.hid (HB8.out.trans (hb9.mono (by omega))); have hS9 : StoreAt w9 s self 256 1048576 256 ep U1 hm (j : Int) (Sn.bytes ml : Nat) set := HS8.out.keep (hb9.block s (by omega)); have hM9 : MapAt w9 hm kv := HM8.out.keep (hb9.block hm (by omega)); have G0 := Lib.hid ((hb9.block w.heap.size (by omega)).trans G0.out); have q0 := cell_of_cells G0.out 0; have q1 := cell_of_cells G0.out 1; simp at q0 q1; have s69 : w9.cell? ⟨s, 69, none⟩ = some (.map (some hm)) := (hS9.cell 69).trans (stC_hi hS9.1 0); have s71 : w9.cell? ⟨s, 71, none⟩ = some (.int .i64 (Sn.bytes ml : Nat)) := (hS9.cell 71).trans (stC_hi hS9.1 2); have s72 : w9.cell? ⟨s, 72, none⟩ = some set := (hS9.cell 72).trans (stC_hi hS9.1 3); have f72 := hS9.free 72; have HMW := Lib.hid hM9; have hs9 : s < w9.heap.size := by omega
        have hm9 : hm < w9.heap.size := by omega
        have hw9 : w.heap.size < w9.heap.size := by omega
        obtain ⟨F, hF⟩ : ∃ F, F = fromE sn := ⟨_, rfl⟩; rw [← hF]; obtain ⟨Y, hY⟩ : ∃ Y, Y = Sn.bytes ml := ⟨_, rfl⟩; rw [← hY] at s71; have HY := Lib.hid hY; clear hb9 hS9 hM9 b4 q2 b0 hY
        by_cases hmk : marksB none sn = false
        · have hF2 : F = 2 := by rw [hF, fromE, if_pos hmk]
          have HRF : Hid (R = 2) := by
            show R = 2
            rw [HRR.out, fromC, if_neg (by simpa using hsf), if_pos (by rw [hmk]; simp)]
          clear hF hmk; subst hF2
          go_wp2_with fail
          go_ret2
          first
            | exact ⟨_, by rw [HRF.out]; rfl, HB9.out⟩
            | exact ⟨⟨_, by rw [HRF.out]; rfl⟩, HB9.out⟩
        have hmt : marksB none sn = true := by simpa using hmk
        have HALL : Hid ((nextOk ⟨self, ep, nx, ml, sn⟩ && holdB ⟨self, ep, nx, ml, sn⟩ && selfB ⟨self, ep, nx, ml, sn⟩ && marksB none sn) = true) := by
          show _ = true
          rw [HNX2.out, HHO.out, HSB.out, hmt]; rfl
        by_cases hgp : 256 < gaps sn
        · have hF6 : F = 6 := by rw [hF, fromE, if_neg hmk, if_pos hgp]
          have HGP := Lib.hid hgp; clear hF hmk hmt hgp; subst hF6
          go_wp2_with fail
          refine Free.wp_seq (I := fun w' => Below w9.heap.size w9 w') (Gr := fun w1 w2 => Below w1.heap.size w1 w2) (by kernel_rfl) (by kernel_rfl) (Below.refl _ _).drew ?_
          apply Free.sv; intro a w1 hI hp
          · have e7 := hp.sl 7; simp at e7; refine ⟨Free.wn, ?_⟩; clear hp; go_simp; rfl
          apply Free.sv; intro a w1 hI hp
          · have e116 := hp.b 0 0; refine ⟨Free.wn, ?_⟩; clear hp; go_simp; rfl
          apply Free.sv; intro a w1 hI hp
          · have e117 := hp.b 1 0; refine ⟨Free.wn, ?_⟩; clear hp; go_simp; rfl
          refine Free.sp 2 0 ?_; refine Free.sp 2 1 ?_; refine Free.sp 2 2 ?_; refine Free.sp 2 3 ?_; refine Free.sp 2 4 ?_; refine Free.sp 2 5 ?_; refine Free.sp 2 6 ?_; refine Free.sp 2 7 ?_
          apply Free.sv; intro a w1 hI hp
          · have e118 := hp.b 2 8; have e126 := hp.b 10 0; refine ⟨Free.wn, ?_⟩; clear hp; go_simp; rfl
          apply Free.sv; intro a w1 hI hp
          · have e127 := hp.b 11 0; refine ⟨Free.wn, ?_⟩; clear hp; go_simp; rfl
          refine Free.sp 12 0 ?_; refine Free.sp 12 1 ?_; refine Free.sp 12 2 ?_; refine Free.sp 12 3 ?_; refine Free.sp 12 4 ?_; refine Free.sp 12 5 ?_; refine Free.sp 12 6 ?_
          apply Free.sv; intro a w1 hI hp
          · have e128 := hp.b 12 7; have e135 := hp.b 19 0; refine ⟨Free.wn, ?_⟩; clear hp; go_simp; rfl
          refine Free.Seq.done (by simp) (fun wz hIz => ?_); simp only [List.reverse_cons, List.reverse_nil, List.nil_append, List.cons_append, Free.All, Free.eqF, forall_eq]; have HIZ := Lib.hid hIz; clear hIz; simp only [Free.putL, Act.put, List.setIfInBounds_toArray, List.set_cons_zero, List.set_cons_succ]; have HRF : Hid (R = 6) := by
            show R = 6
            rw [HRR.out, fromC, if_neg (by simpa using hsf), if_neg (by rw [HALL.out]; simp), if_pos (.inl HGP.out)]
          dsimp only [Exit.then]
          have hzf := HIZ.out.size; have HBF := Lib.hid (HB9.out.trans (HIZ.out.mono (by omega)))
          go_wp2_with fail
          go_ret2
          first
            | exact ⟨_, by rw [HRF.out]; rfl, HBF.out⟩
            | exact ⟨⟨_, by rw [HRF.out]; rfl⟩, HBF.out⟩

        have hF0 : F = 0 := by rw [hF, fromE, if_neg hmk, if_neg hgp]
        have HGP := Lib.hid hgp; clear hF hmk hmt hgp; subst hF0
        by_cases hln : 256 < j
        · have hd1 : decide ((256 : Int) < (j : Int)) = true := by simp; omega
          have HLN := Lib.hid hln; clear hln
          go_wp2_with fail
          refine Free.wp_seq (I := fun w' => Below w9.heap.size w9 w') (Gr := fun w1 w2 => Below w1.heap.size w1 w2) (by kernel_rfl) (by kernel_rfl) (Below.refl _ _).drew ?_
          apply Free.sv; intro a w1 hI hp
          · have e7 := hp.sl 7; simp at e7; refine ⟨Free.wn, ?_⟩; clear hp; go_simp; rfl
          apply Free.sv; intro a w1 hI hp
          · have e116 := hp.b 0 0; refine ⟨Free.wn, ?_⟩; clear hp; go_simp; rfl
          apply Free.sv; intro a w1 hI hp
          · have e117 := hp.b 1 0; refine ⟨Free.wn, ?_⟩; clear hp; go_simp; rfl
          apply Free.sv; intro a w1 hI hp
          · have e118 := hp.b 2 0; have e6 := hp.sl 6; simp at e6; refine ⟨hp.wt e118, ?_⟩; clear hp; go_simp; rfl
          apply Free.sv; intro a w1 hI hp
          · have e118 := hp.b 2 1; have e119 := hp.b 3 0; refine ⟨hp.wt e118, ?_⟩; clear hp; go_simp; rfl
          apply Free.sv; intro a w1 hI hp
          · have e118 := hp.b 2 2; have e120 := hp.b 4 0; refine ⟨hp.wt e118, ?_⟩; clear hp; go_simp; rfl
          apply Free.sv; intro a w1 hI hp
          · have e118 := hp.b 2 3; have e121 := hp.b 5 0; have ks69 := (hI.cell (p := ⟨s, 69, none⟩) hs9).trans s69; refine ⟨hp.wt e118, ?_⟩; clear hp; go_simp; rfl
          apply Free.sv; intro a w1 hI hp
          · have e118 := hp.b 2 4; have e122 := hp.b 6 0; have hl := fun ty => len_map (P := Try.prog) (M := 96) Try.underlying96 (HMW.out.keep (hI.block hm hm9)) ty
            refine ⟨hp.wt e118, ?_⟩; clear hp; go_simp; rfl
          apply Free.sv; intro a w1 hI hp
          · have e118 := hp.b 2 5; have e2 := hp.sl 2; simp at e2; refine ⟨hp.wt e118, ?_⟩; clear hp; go_simp; rfl
          apply Free.sv; intro a w1 hI hp
          · have e118 := hp.b 2 6; have e124 := hp.b 8 0; have kq0 := (hI.cell (p := ⟨w.heap.size, 0, none⟩) hw9).trans q0; refine ⟨hp.wt e118, ?_⟩; clear hp; go_simp; rfl
          apply Free.sv; intro a w1 hI hp
          · have e118 := hp.b 2 7; have e123 := hp.b 7 2; have e125 := hp.b 9 0; refine ⟨hp.wt e118, ?_⟩; clear hp; go_simp; rfl
          apply Free.sv; intro a w1 hI hp
          · have e118 := hp.b 2 8; have e126 := hp.b 10 0; refine ⟨Free.wn, ?_⟩; clear hp; go_simp; rfl
          apply Free.sv; intro a w1 hI hp
          · have e127 := hp.b 11 0; refine ⟨Free.wn, ?_⟩; clear hp; go_simp; rfl
          refine Free.sp 12 0 ?_; refine Free.sp 12 1 ?_; refine Free.sp 12 2 ?_; refine Free.sp 12 3 ?_; refine Free.sp 12 4 ?_; refine Free.sp 12 5 ?_; refine Free.sp 12 6 ?_
          apply Free.sv; intro a w1 hI hp
          · have e128 := hp.b 12 7; have e135 := hp.b 19 0; refine ⟨Free.wn, ?_⟩; clear hp; go_simp; rfl
          refine Free.Seq.done (by simp) (fun wz hIz => ?_); simp only [List.reverse_cons, List.reverse_nil, List.nil_append, List.cons_append, Free.All, Free.eqF, forall_eq]; have HIZ := Lib.hid hIz; clear hIz; simp only [Free.putL, Act.put, List.setIfInBounds_toArray, List.set_cons_zero, List.set_cons_succ]; have HRF : Hid (R = 6) := by
            show R = 6
            rw [HRR.out, fromC, if_neg (by simpa using hsf), if_neg (by rw [HALL.out]; simp), if_pos (.inr (.inl (by have h1 := HLN.out; have h2 := HMLEN.out; simp only; omega)))]
          dsimp only [Exit.then]
          have hzf := HIZ.out.size; have HBF := Lib.hid (HB9.out.trans (HIZ.out.mono (by omega)))
          go_wp2_with fail
          go_ret2
          first
            | exact ⟨_, by rw [HRF.out]; rfl, HBF.out⟩
            | exact ⟨⟨_, by rw [HRF.out]; rfl⟩, HBF.out⟩

        have hd1 : decide ((256 : Int) < (j : Int)) = false := by simp; omega
        by_cases hby2 : 1048576 < Y
        · have hd2 : decide ((1048576 : Int) < (Y : Int)) = true := by simp; omega
          have HBY := Lib.hid hby2; clear hby2
          go_wp2_with fail
          refine Free.wp_seq (I := fun w' => Below w9.heap.size w9 w') (Gr := fun w1 w2 => Below w1.heap.size w1 w2) (by kernel_rfl) (by kernel_rfl) (Below.refl _ _).drew ?_
          apply Free.sv; intro a w1 hI hp
          · have e7 := hp.sl 7; simp at e7; refine ⟨Free.wn, ?_⟩; clear hp; go_simp; rfl
          apply Free.sv; intro a w1 hI hp
          · have e116 := hp.b 0 0; refine ⟨Free.wn, ?_⟩; clear hp; go_simp; rfl
          apply Free.sv; intro a w1 hI hp
          · have e117 := hp.b 1 0; refine ⟨Free.wn, ?_⟩; clear hp; go_simp; rfl
          apply Free.sv; intro a w1 hI hp
          · have e118 := hp.b 2 0; have e6 := hp.sl 6; simp at e6; refine ⟨hp.wt e118, ?_⟩; clear hp; go_simp; rfl
          apply Free.sv; intro a w1 hI hp
          · have e118 := hp.b 2 1; have e119 := hp.b 3 0; refine ⟨hp.wt e118, ?_⟩; clear hp; go_simp; rfl
          apply Free.sv; intro a w1 hI hp
          · have e118 := hp.b 2 2; have e120 := hp.b 4 0; refine ⟨hp.wt e118, ?_⟩; clear hp; go_simp; rfl
          apply Free.sv; intro a w1 hI hp
          · have e118 := hp.b 2 3; have e121 := hp.b 5 0; have ks69 := (hI.cell (p := ⟨s, 69, none⟩) hs9).trans s69; refine ⟨hp.wt e118, ?_⟩; clear hp; go_simp; rfl
          apply Free.sv; intro a w1 hI hp
          · have e118 := hp.b 2 4; have e122 := hp.b 6 0; have hl := fun ty => len_map (P := Try.prog) (M := 96) Try.underlying96 (HMW.out.keep (hI.block hm hm9)) ty
            refine ⟨hp.wt e118, ?_⟩; clear hp; go_simp; rfl
          apply Free.sv; intro a w1 hI hp
          · have e118 := hp.b 2 5; have e2 := hp.sl 2; simp at e2; refine ⟨hp.wt e118, ?_⟩; clear hp; go_simp; rfl
          apply Free.sv; intro a w1 hI hp
          · have e118 := hp.b 2 6; have e124 := hp.b 8 0; have kq0 := (hI.cell (p := ⟨w.heap.size, 0, none⟩) hw9).trans q0; refine ⟨hp.wt e118, ?_⟩; clear hp; go_simp; rfl
          apply Free.sv; intro a w1 hI hp
          · have e118 := hp.b 2 7; have e123 := hp.b 7 2; have e125 := hp.b 9 0; refine ⟨hp.wt e118, ?_⟩; clear hp; go_simp; rfl
          apply Free.sv; intro a w1 hI hp
          · have e118 := hp.b 2 8; have e126 := hp.b 10 0; refine ⟨Free.wn, ?_⟩; clear hp; go_simp; rfl
          apply Free.sv; intro a w1 hI hp
          · have e127 := hp.b 11 0; refine ⟨Free.wn, ?_⟩; clear hp; go_simp; rfl
          apply Free.sv; intro a w1 hI hp
          · have e128 := hp.b 12 0; have e6 := hp.sl 6; simp at e6; refine ⟨hp.wt e128, ?_⟩; clear hp; go_simp; rfl
          apply Free.sv; intro a w1 hI hp
          · have e128 := hp.b 12 1; have e129 := hp.b 13 0; refine ⟨hp.wt e128, ?_⟩; clear hp; go_simp; rfl
          apply Free.sv; intro a w1 hI hp
          · have e128 := hp.b 12 2; have e130 := hp.b 14 0; refine ⟨hp.wt e128, ?_⟩; clear hp; go_simp; rfl
          apply Free.sv; intro a w1 hI hp
          · have e128 := hp.b 12 3; have e131 := hp.b 15 0; have ks71 := (hI.cell (p := ⟨s, 71, none⟩) hs9).trans s71; refine ⟨hp.wt e128, ?_⟩; clear hp; go_simp; rfl
          apply Free.sv; intro a w1 hI hp
          · have e128 := hp.b 12 4; have e2 := hp.sl 2; simp at e2; refine ⟨hp.wt e128, ?_⟩; clear hp; go_simp; rfl
          apply Free.sv; intro a w1 hI hp
          · have e128 := hp.b 12 5; have e133 := hp.b 17 0; have kq1 := (hI.cell (p := ⟨w.heap.size, 1, none⟩) hw9).trans q1; refine ⟨hp.wt e128, ?_⟩; clear hp; go_simp; rfl
          apply Free.sv; intro a w1 hI hp
          · have e128 := hp.b 12 6; have e132 := hp.b 16 2; have e134 := hp.b 18 0; refine ⟨hp.wt e128, ?_⟩; clear hp; go_simp; rfl
          apply Free.sv; intro a w1 hI hp
          · have e128 := hp.b 12 7; have e135 := hp.b 19 0; refine ⟨Free.wn, ?_⟩; clear hp; go_simp; rfl
          refine Free.Seq.done (by simp) (fun wz hIz => ?_); simp only [List.reverse_cons, List.reverse_nil, List.nil_append, List.cons_append, Free.All, Free.eqF, forall_eq]; have HIZ := Lib.hid hIz; clear hIz; simp only [Free.putL, Act.put, List.setIfInBounds_toArray, List.set_cons_zero, List.set_cons_succ]; have HRF : Hid (R = 6) := by
            show R = 6
            rw [HRR.out, fromC, if_neg (by simpa using hsf), if_neg (by rw [HALL.out]; simp), if_pos (.inr (.inr (by have h1 := HBY.out; have h2 := HY.out; simp only; omega)))]
          dsimp only [Exit.then]
          have hzf := HIZ.out.size; have HBF := Lib.hid (HB9.out.trans (HIZ.out.mono (by omega)))
          go_wp2_with fail
          go_ret2
          first
            | exact ⟨_, by rw [HRF.out]; rfl, HBF.out⟩
            | exact ⟨⟨_, by rw [HRF.out]; rfl⟩, HBF.out⟩

        have hd2 : decide ((1048576 : Int) < (Y : Int)) = false := by simp; omega
        have HRF : Hid (R = 0) := by
          show R = 0
          rw [HRR.out, fromC, if_neg (by simpa using hsf), if_neg (by rw [HALL.out]; simp), if_neg]; rintro (h | h | h)
          · exact HGP.out h
          · have h2 := HMLEN.out; simp only at h; omega
          · have h2 := HY.out; simp only at h; omega
        go_wp2_with fail
        refine Free.wp_seq (I := fun w' => Below w9.heap.size w9 w') (Gr := fun w1 w2 => Below w1.heap.size w1 w2) (by kernel_rfl) (by kernel_rfl) (Below.refl _ _).drew ?_
        apply Free.sv; intro a w1 hI hp
        · have e7 := hp.sl 7; simp at e7; refine ⟨Free.wn, ?_⟩; clear hp; go_simp; rfl
        apply Free.sv; intro a w1 hI hp
        · have e116 := hp.b 0 0; refine ⟨Free.wn, ?_⟩; clear hp; go_simp; rfl
        apply Free.sv; intro a w1 hI hp
        · have e117 := hp.b 1 0; refine ⟨Free.wn, ?_⟩; clear hp; go_simp; rfl
        apply Free.sv; intro a w1 hI hp
        · have e118 := hp.b 2 0; have e6 := hp.sl 6; simp at e6; refine ⟨hp.wt e118, ?_⟩; clear hp; go_simp; rfl
        apply Free.sv; intro a w1 hI hp
        · have e118 := hp.b 2 1; have e119 := hp.b 3 0; refine ⟨hp.wt e118, ?_⟩; clear hp; go_simp; rfl
        apply Free.sv; intro a w1 hI hp
        · have e118 := hp.b 2 2; have e120 := hp.b 4 0; refine ⟨hp.wt e118, ?_⟩; clear hp; go_simp; rfl
        apply Free.sv; intro a w1 hI hp
        · have e118 := hp.b 2 3; have e121 := hp.b 5 0; have ks69 := (hI.cell (p := ⟨s, 69, none⟩) hs9).trans s69; refine ⟨hp.wt e118, ?_⟩; clear hp; go_simp; rfl
        apply Free.sv; intro a w1 hI hp
        · have e118 := hp.b 2 4; have e122 := hp.b 6 0; have hl := fun ty => len_map (P := Try.prog) (M := 96) Try.underlying96 (HMW.out.keep (hI.block hm hm9)) ty
          refine ⟨hp.wt e118, ?_⟩; clear hp; go_simp; rfl
        apply Free.sv; intro a w1 hI hp
        · have e118 := hp.b 2 5; have e2 := hp.sl 2; simp at e2; refine ⟨hp.wt e118, ?_⟩; clear hp; go_simp; rfl
        apply Free.sv; intro a w1 hI hp
        · have e118 := hp.b 2 6; have e124 := hp.b 8 0; have kq0 := (hI.cell (p := ⟨w.heap.size, 0, none⟩) hw9).trans q0; refine ⟨hp.wt e118, ?_⟩; clear hp; go_simp; rfl
        apply Free.sv; intro a w1 hI hp
        · have e118 := hp.b 2 7; have e123 := hp.b 7 2; have e125 := hp.b 9 0; refine ⟨hp.wt e118, ?_⟩; clear hp; go_simp; rfl
        apply Free.sv; intro a w1 hI hp
        · have e118 := hp.b 2 8; have e126 := hp.b 10 0; refine ⟨Free.wn, ?_⟩; clear hp; go_simp; rfl
        apply Free.sv; intro a w1 hI hp
        · have e127 := hp.b 11 0; refine ⟨Free.wn, ?_⟩; clear hp; go_simp; rfl
        apply Free.sv; intro a w1 hI hp
        · have e128 := hp.b 12 0; have e6 := hp.sl 6; simp at e6; refine ⟨hp.wt e128, ?_⟩; clear hp; go_simp; rfl
        apply Free.sv; intro a w1 hI hp
        · have e128 := hp.b 12 1; have e129 := hp.b 13 0; refine ⟨hp.wt e128, ?_⟩; clear hp; go_simp; rfl
        apply Free.sv; intro a w1 hI hp
        · have e128 := hp.b 12 2; have e130 := hp.b 14 0; refine ⟨hp.wt e128, ?_⟩; clear hp; go_simp; rfl
        apply Free.sv; intro a w1 hI hp
        · have e128 := hp.b 12 3; have e131 := hp.b 15 0; have ks71 := (hI.cell (p := ⟨s, 71, none⟩) hs9).trans s71; refine ⟨hp.wt e128, ?_⟩; clear hp; go_simp; rfl
        apply Free.sv; intro a w1 hI hp
        · have e128 := hp.b 12 4; have e2 := hp.sl 2; simp at e2; refine ⟨hp.wt e128, ?_⟩; clear hp; go_simp; rfl
        apply Free.sv; intro a w1 hI hp
        · have e128 := hp.b 12 5; have e133 := hp.b 17 0; have kq1 := (hI.cell (p := ⟨w.heap.size, 1, none⟩) hw9).trans q1; refine ⟨hp.wt e128, ?_⟩; clear hp; go_simp; rfl
        apply Free.sv; intro a w1 hI hp
        · have e128 := hp.b 12 6; have e132 := hp.b 16 2; have e134 := hp.b 18 0; refine ⟨hp.wt e128, ?_⟩; clear hp; go_simp; rfl
        apply Free.sv; intro a w1 hI hp
        · have e128 := hp.b 12 7; have e135 := hp.b 19 0; refine ⟨Free.wn, ?_⟩; clear hp; go_simp; rfl
        refine Free.Seq.done (by simp) (fun wz hIz => ?_); simp only [List.reverse_cons, List.reverse_nil, List.nil_append, List.cons_append, Free.All, Free.eqF, forall_eq]; have HIZ := Lib.hid hIz; clear hIz; simp only [Free.putL, Act.put, List.setIfInBounds_toArray, List.set_cons_zero, List.set_cons_succ]
        dsimp only [Exit.then]
        have hzf := HIZ.out.size; have HBF := Lib.hid (HB9.out.trans (HIZ.out.mono (by omega))); have t72 := (HIZ.out.cell (p := ⟨s, 72, none⟩) hs9).trans s72; have g72 : wz.frozen? ⟨s, 72, none⟩ = false := (HIZ.out.frozen (p := ⟨s, 72, none⟩) hs9).trans f72
        go_wp2_with fail
        go_ret2
        first
          | exact ⟨_, by rw [HRF.out]; rfl, HBF.out.setCell (p := ⟨s, 72, none⟩) (by show w.heap.size ≤ s; omega) _⟩
          | exact ⟨⟨_, by rw [HRF.out]; rfl⟩, HBF.out.setCell (p := ⟨s, 72, none⟩) (by show w.heap.size ≤ s; omega) _⟩
end Go.Proofs.Ytcnlgcmooegfkaa
