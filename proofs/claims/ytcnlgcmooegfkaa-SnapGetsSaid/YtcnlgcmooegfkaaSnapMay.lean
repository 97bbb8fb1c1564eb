/-
  EVENTS: the walk of store.May, for an event that holds a message.
-/
import Derived.Test.YtcnlgcmooegfkaaSnapForm
import Derived.Test.YtcnlgcmooegfkaaSnapNew
import Derived.Test.YtcnlgcmooegfkaaLit
import Derived.IntWalk
namespace Go.Proofs.Ytcnlgcmooegfkaa
open Go.RowKit Mg Sn

/-- why a message may not be held -/
def mayE (self ep : Int) (ids : List Mid) (i : Mid) (n : Nat) : Int :=
  if chkM i n ≠ 0 then chkM i n else if i.d = self ∨ (i.o = self ∧ ep < i.e) then 2 else if i ∈ ids then 5 else 0
/-- a held message's cells -/
def PlcF (us : List Value) : Prop := ∃ (o d e c : Int) (A : Option Addr) (n c' : Nat) (t : Int), us = [.int .i64 o, .int .i64 d, .int .i64 e, .int .i64 c, .slice A n c', .int .i64 t]
theorem PlcF.len {us : List Value} (h : PlcF us) : us.length = 6 := by obtain ⟨_, _, _, _, _, _, _, _, rfl⟩ := h; rfl
theorem PlcF.nob {us : List Value} (h : PlcF us) : NoB us := by
  obtain ⟨_, _, _, _, _, _, _, _, rfl⟩ := h; intro u hu x e; subst e; simp at hu
/-- what a map of held messages has -/
def Places (kv : List (Value × Value)) (ids : List Mid) : Prop :=
  kv.map Prod.fst = ids.map idv ∧ ∀ x ∈ kv, ∃ us : List Value, x.2 = .agg us.toArray ∧ PlcF us
theorem Places.snoc {kv : List (Value × Value)} {ids : List Mid} (h : Places kv ids) (i : Mid) {us : List Value} (hl : PlcF us) : Places (kv ++ [(idv i, .agg us.toArray)]) (ids ++ [i]) := by
  refine ⟨by simp [h.1], fun x hx => ?_⟩; rw [List.mem_append] at hx
  rcases hx with hx | hx
  · exact h.2 x hx
  · simp at hx; subst hx; exact ⟨us, rfl, hl⟩
theorem idv_inj {a b : Mid} (h : idv a = idv b) : a = b := by
  obtain ⟨o, d, e, c⟩ := a; obtain ⟨o', d', e', c'⟩ := b; simp [idv] at h
  simpa using h
theorem look_held {w : World} {hm : Nat} {kv : List (Value × Value)} {ids : List Mid} (hM : MapAt w hm kv) (hP : Places kv ids) (i : Mid) :
    ∃ us : List Value, PlcF us ∧ (Instr.lookup 96 (.map (some hm)) (idv i) true).run Try.prog w = .ok (.tuple #[.agg us.toArray, .bool (decide (i ∈ ids))]) w := by
  by_cases h : i ∈ ids
  · have hm' : idv i ∈ kv.map Prod.fst := by rw [hP.1]; exact List.mem_map_of_mem h
    obtain ⟨v, hv, hr⟩ := look_some (P := Try.prog) (M := 96) (E := 122) (k := idv i) Try.underlying96 Try.underlying52 (fun a b => by cases a <;> cases b <;> rfl) hM (fun em => check_id em i w) (fun x hx => by
      have : x.1 ∈ kv.map Prod.fst := List.mem_map_of_mem hx; rw [hP.1, List.mem_map] at this; obtain ⟨j, _, hj⟩ := this; rw [← hj]; exact ⟨_, eq_id i j w, by rw [decide_eq_true_iff]; exact ⟨fun e => by rw [e], idv_inj⟩⟩) hm' true
    obtain ⟨us, hus, hl⟩ := hP.2 _ hv; simp only at hus; subst hus; exact ⟨us, hl, by simpa [h] using hr⟩
  · refine ⟨[.int .i64 0, .int .i64 0, .int .i64 0, .int .i64 0, .slice none 0 0, .int .i64 0], ⟨_, _, _, _, _, _, _, _, rfl⟩, ?_⟩; have := look_none (P := Try.prog) (M := 96) (E := 122) (k := idv i) (z := .agg #[.int .i64 0, .int .i64 0, .int .i64 0, .int .i64 0, .slice none 0 0, .int .i64 0]) Try.underlying96 Try.underlying52 (fun a b => by cases a <;> cases b <;> rfl) hM (by kernel_rfl) (fun em => check_id em i w) (fun x hx => by
      have : x.1 ∈ kv.map Prod.fst := List.mem_map_of_mem hx; rw [hP.1, List.mem_map] at this; obtain ⟨j, hj', hj⟩ := this; rw [← hj, eq_id]; have : i ≠ j := by rintro rfl; exact h hj'
      simp [this]) true
    simpa [h] using this

theorem six {α : Type} {l : List α} (h : l.length = 6) : ∃ a b c d e f, l = [a, b, c, d, e, f] := by
  match l, h with
  | [a, b, c, d, e, f], _ => exact ⟨a, b, c, d, e, f, rfl⟩

set_option maxRecDepth 100000 in
set_option maxHeartbeats 4000000 in
theorem may_any (i : Mid) (A : Option Addr) (n c : Nat) (w : World) {s hm : Nat} {self qh qb qg ep came by_ : Int} {u : List Int} {set : Value} {kv : List (Value × Value)} {ids : List Mid}
    (hS : StoreAt w s self qh qb qg ep u hm came by_ set) (hM : MapAt w hm kv) (hP : Places kv ids) (hq : (kv.length : Int) < qh) (hn : chkM i n = 0 → (n : Int) ≤ qb - by_) (hb0 : 0 ≤ by_) (hqb : qb ≤ 4611686018427387904) :
    Calls Try.prog 66 #[.pointer (some ⟨s, 0, none⟩), evv i (.slice A n c)] w fun e w' => e = .returned (.int .i64 (mayE self ep ids i n)) ∧ Below w.heap.size w w' := by
  obtain ⟨R, hR⟩ : ∃ R, R = mayE self ep ids i n := ⟨_, rfl⟩; rw [← hR]; obtain ⟨X, hX⟩ : ∃ X, X = chkM i n := ⟨_, rfl⟩; have HF : Hid (∀ w' : World, Calls Try.prog 78 #[evv i (.slice A n c)] w' fun e w'' => e = .returned (.int .i64 X) ∧ Below w'.heap.size w' w'') := fun w' => by rw [hX]; exact form_any i A n c w'
  have HHN := Lib.hid hn; have HR := Lib.hid hR; have HX := Lib.hid hX; have HS := Lib.hid hS; have HM := Lib.hid hM; have HP := Lib.hid hP; have hsw := hS.lt; have hmw := hM.lt; clear hR hX hS hM hP hn; obtain ⟨o, d, e, k⟩ := i; unfold evv at HF ⊢; simp only at HF ⊢
  go_enter Try.func66, Try.ntmps66
  go_wp2_with fail
  refine (HF.out _).mono ?_; rintro e1 wv ⟨rfl, hb⟩; obtain ⟨W0, hW0⟩ : ∃ W0, W0 = w.alloc (.cells #[.int .i64 2, .int .i64 o, .int .i64 d, .int .i64 e, .int .i64 k, .slice A n c] 102) := ⟨_, rfl⟩; rw [← hW0] at hb; have hs0 : W0.heap.size = w.heap.size + 1 := by rw [hW0]; simp
  have hb0' : Below w.heap.size w W0 := by rw [hW0]; exact (Below.refl _ _).alloc (Nat.le_refl _) _
  have v0 : W0.cell? ⟨w.heap.size, 0, none⟩ = some (.int .i64 2) := by rw [hW0]; exact World.cell?_alloc_mark w _ _ _ 0
  have v1 : W0.cell? ⟨w.heap.size, 1, none⟩ = some (.int .i64 o) := by rw [hW0]; exact World.cell?_alloc_mark w _ _ _ 1
  have v2 : W0.cell? ⟨w.heap.size, 2, none⟩ = some (.int .i64 d) := by rw [hW0]; exact World.cell?_alloc_mark w _ _ _ 2
  have v3 : W0.cell? ⟨w.heap.size, 3, none⟩ = some (.int .i64 e) := by rw [hW0]; exact World.cell?_alloc_mark w _ _ _ 3
  have v4 : W0.cell? ⟨w.heap.size, 4, none⟩ = some (.int .i64 k) := by rw [hW0]; exact World.cell?_alloc_mark w _ _ _ 4
  have v5 : W0.cell? ⟨w.heap.size, 5, none⟩ = some (.slice A n c) := by rw [hW0]; exact World.cell?_alloc_mark w _ _ _ 5
  have hvl : w.heap.size < W0.heap.size := by omega
  have v0 := (hb.cell (p := ⟨w.heap.size, 0, none⟩) hvl).trans v0; have v1 := (hb.cell (p := ⟨w.heap.size, 1, none⟩) hvl).trans v1; have v2 := (hb.cell (p := ⟨w.heap.size, 2, none⟩) hvl).trans v2; have v3 := (hb.cell (p := ⟨w.heap.size, 3, none⟩) hvl).trans v3; have v4 := (hb.cell (p := ⟨w.heap.size, 4, none⟩) hvl).trans v4; have v5 := (hb.cell (p := ⟨w.heap.size, 5, none⟩) hvl).trans v5; have hs1 := hb.size; have HB1 := Lib.hid (hb0'.trans (hb.mono (by omega))); have hvw : w.heap.size < wv.heap.size := by omega
  clear hb hb0' hW0
  by_cases hc : X = 0
  · subst hc
    go_wp2_with fail
    obtain ⟨W, hW⟩ : ∃ W, W = wv.alloc (.cells #[.int .i64 o, .int .i64 d, .int .i64 e, .int .i64 k] 52) := ⟨_, rfl⟩; rw [← hW]; have hWs : W.heap.size = wv.heap.size + 1 := by rw [hW]; simp
    have hiW : wv.heap.size < W.heap.size := by omega
    have hvW : w.heap.size < W.heap.size := by omega
    have hsW : s < W.heap.size := by omega
    have hmW : hm < W.heap.size := by omega
    have i0 : W.cell? ⟨wv.heap.size, 0, none⟩ = some (.int .i64 o) := by rw [hW]; exact World.cell?_alloc_mark wv _ _ _ 0
    have i1 : W.cell? ⟨wv.heap.size, 1, none⟩ = some (.int .i64 d) := by rw [hW]; exact World.cell?_alloc_mark wv _ _ _ 1
    have i2 : W.cell? ⟨wv.heap.size, 2, none⟩ = some (.int .i64 e) := by rw [hW]; exact World.cell?_alloc_mark wv _ _ _ 2
    have i3 : W.cell? ⟨wv.heap.size, 3, none⟩ = some (.int .i64 k) := by rw [hW]; exact World.cell?_alloc_mark wv _ _ _ 3
    have hWW : Below wv.heap.size wv W := by rw [hW]; exact (Below.refl _ _).alloc (Nat.le_refl _) _
    have v0 := (hWW.cell (p := ⟨w.heap.size, 0, none⟩) hvw).trans v0; have v5 := (hWW.cell (p := ⟨w.heap.size, 5, none⟩) hvw).trans v5; have hSW : StoreAt W s self qh qb qg ep u hm came by_ set := HS.out.keep ((hWW.block s (by omega)).trans (HB1.out.block s hsw)); have s0 : W.cell? ⟨s, 0, none⟩ = some (.int .i64 self) := (hSW.cell 0).trans (stC_lo 0 (by omega)); have s1 : W.cell? ⟨s, 1, none⟩ = some (.int .i64 qh) := (hSW.cell 1).trans (stC_lo 1 (by omega)); have s2 : W.cell? ⟨s, 2, none⟩ = some (.int .i64 qb) := (hSW.cell 2).trans (stC_lo 2 (by omega)); have s4 : W.cell? ⟨s, 4, none⟩ = some (.int .i64 ep) := (hSW.cell 4).trans (stC_lo 4 (by omega)); have s69 : W.cell? ⟨s, 69, none⟩ = some (.map (some hm)) := (hSW.cell 69).trans (stC_hi hSW.1 0); have s71 : W.cell? ⟨s, 71, none⟩ = some (.int .i64 by_) := (hSW.cell 71).trans (stC_hi hSW.1 2); have hMW : MapAt W hm kv := HM.out.keep ((hWW.block hm (by omega)).trans (HB1.out.block hm hmw)); have HMW := Lib.hid hMW; have HWW := Lib.hid (HB1.out.trans (hWW.mono (by omega))); obtain ⟨H, hH⟩ : ∃ H, H = decide ((⟨o, d, e, k⟩ : Mid) ∈ ids) := ⟨_, rfl⟩; have HH := Lib.hid hH; have HL : Hid (∀ w' : World, Below W.heap.size W w' → ∃ us : List Value, PlcF us ∧ (Instr.lookup 96 (.map (some hm)) (idv ⟨o, d, e, k⟩) true).run Try.prog w' = .ok (.tuple #[.agg us.toArray, .bool H]) w') := fun w' h => by
      rw [hH]; exact look_held (HMW.out.keep (h.block hm hmW)) HP.out ⟨o, d, e, k⟩
    clear hW hWW hSW hMW hH; refine Free.wp_seq2 (I := fun L w' => Below W.heap.size W w') (Gr := fun x y => GrN W.heap.size 122 x y) (by kernel_rfl) (by kernel_rfl) (Below.refl _ _).drew ?_; refine Free.Seq2.val ?_ (fun _ => GrN.refl _ _ _) (fun _ _ h => h) (fun a w1 L hI hp => ?_) ?_; rotate_left
    · have e0 := hp.sl 0; simp at e0; refine ⟨Free.wn, ?_⟩; clear hp; go_simp; rfl
    refine Free.Seq2.val ?_ (fun _ => GrN.refl _ _ _) (fun _ _ h => h) (fun a w1 L hI hp => ?_) ?_; rotate_left
    · have e20 := hp.b 0 0; refine ⟨Free.wn, ?_⟩; clear hp; go_simp; rfl
    refine Free.Seq2.val ?_ (fun _ => GrN.refl _ _ _) (fun _ _ h => h) (fun a w1 L hI hp => ?_) ?_; rotate_left
    · have e21 := hp.b 1 0; refine ⟨Free.wn, ?_⟩; clear hp; go_simp; rfl
    refine Free.Seq2.val ?_ (fun _ => GrN.refl _ _ _) (fun _ _ h => h) (fun a w1 L hI hp => ?_) ?_; rotate_left
    · have e22 := hp.b 2 0; have ks69 := (hI.cell (p := ⟨s, 69, none⟩) hsW).trans s69; refine ⟨Free.wn, ?_⟩; clear hp; go_simp; rfl
    refine Free.Seq2.val ?_ (fun _ => GrN.refl _ _ _) (fun _ _ h => h) (fun a w1 L hI hp => ?_) ?_; rotate_left
    · have e6 := hp.sl 6; simp at e6; have ki0 := (hI.cell (p := ⟨wv.heap.size, 0, none⟩) hiW).trans i0; have ki1 := (hI.cell (p := ⟨wv.heap.size, 1, none⟩) hiW).trans i1; have ki2 := (hI.cell (p := ⟨wv.heap.size, 2, none⟩) hiW).trans i2; have ki3 := (hI.cell (p := ⟨wv.heap.size, 3, none⟩) hiW).trans i3; refine ⟨Free.wn, ?_⟩; clear hp; go_simp; rfl
    refine Free.Seq2.op (T := fun v _ => ∃ us : List Value, v = .tuple #[.agg us.toArray, .bool H] ∧ PlcF us) (fun _ _ _ h _ => h) (fun a w1 L hI hp => ?_) ?_
    · have e23 := hp.b 3 1; have e24 := hp.b 4 0; obtain ⟨us, h1, h3⟩ := HL.out _ hI; refine ⟨Free.wn, .tuple #[.agg us.toArray, .bool H], w1, ?_, ⟨us, rfl, h1⟩, GrN.refl _ _ _, hI⟩; clear hp; unfold idv at h3; go_simp
    refine Free.Seq2.op (T := fun v _ => ∃ us : List Value, v = .tuple #[.agg us.toArray, .bool H] ∧ PlcF us) (fun _ _ _ h _ => h) (fun a w1 L hI hp => ?_) ?_
    · skip
      obtain ⟨us, e25, h1⟩ := hp.back 5 0 rfl rfl rfl rfl rfl; refine ⟨Free.wn, .tuple #[.agg us.toArray, .bool H], w1, ?_, ⟨us, rfl, h1⟩, GrN.refl _ _ _, hI⟩; clear hp; go_simp
    refine Free.Seq2.op (T := fun v _ => ∃ us : List Value, v = .agg us.toArray ∧ PlcF us) (fun _ _ _ h _ => h) (fun a w1 L hI hp => ?_) ?_
    · skip
      obtain ⟨us, e19, h1⟩ := hp.back 6 0 rfl rfl rfl rfl rfl; refine ⟨Free.wn, .agg us.toArray, w1, ?_, ⟨us, rfl, h1⟩, GrN.refl _ _ _, hI⟩; clear hp; go_simp
    refine Free.Seq2.op (T := Free.eqF (.bool H)) (fun _ _ _ h _ => h) (fun a w1 L hI hp => ?_) ?_
    · skip
      obtain ⟨us, e19, h1⟩ := hp.back 6 1 rfl rfl rfl rfl rfl; refine ⟨Free.wn, .bool H, w1, ?_, rfl, GrN.refl _ _ _, hI⟩; clear hp; go_simp
    refine Free.Seq2.op (T := TPtr W.heap.size 122 6) (fun v x y h hg => TPtr.grN h hg) (fun a w1 L hI hp => ?_) ?_
    · skip
      have hb2 : Below w1.heap.size w1 (w1.alloc (.cells #[.int .i64 0, .int .i64 0, .int .i64 0, .int .i64 0, .slice none 0 0, .int .i64 0] 122)) := (Below.refl _ _).alloc (Nat.le_refl _) _; refine ⟨Free.wn, .pointer (some ⟨w1.heap.size, 0, none⟩), w1.alloc (.cells #[.int .i64 0, .int .i64 0, .int .i64 0, .int .i64 0, .slice none 0 0, .int .i64 0] 122), ?_, ⟨w1.heap.size, [.int .i64 0, .int .i64 0, .int .i64 0, .int .i64 0, .slice none 0 0, .int .i64 0], rfl, hI.size, heap_alloc_new _ _, rfl, by intro u hu x e; subst e; simp at hu⟩, GrN.below hb2, hI.trans (hb2.mono hI.size)⟩; clear hp hI hb2; go_simp
    refine Free.Seq2.skip rfl (fun _ => True) (fun _ _ _ _ => trivial) (fun a w1 L hI hp => ?_) ?_
    · skip
      obtain ⟨ns, e26, hns⟩ := hp.back 7 2 rfl rfl rfl rfl rfl; obtain ⟨q, us, e7, hq, hus, hl, hub⟩ := hp.back 9 0 rfl rfl rfl rfl rfl; obtain ⟨u0, u1, u2, u3, u4, u5, rfl⟩ := six hl; have hnb := hns.nob; obtain ⟨y0, y1, y2, y3, yA, yn, yc, y5, rfl⟩ := hns; obtain ⟨x0, hx0⟩ : ∃ x : Value, x = .int .i64 y0 := ⟨_, rfl⟩; obtain ⟨x1, hx1⟩ : ∃ x : Value, x = .int .i64 y1 := ⟨_, rfl⟩; obtain ⟨x2, hx2⟩ : ∃ x : Value, x = .int .i64 y2 := ⟨_, rfl⟩; obtain ⟨x3, hx3⟩ : ∃ x : Value, x = .int .i64 y3 := ⟨_, rfl⟩; obtain ⟨x4, hx4⟩ : ∃ x : Value, x = .slice yA yn yc := ⟨_, rfl⟩; obtain ⟨x5, hx5⟩ : ∃ x : Value, x = .int .i64 y5 := ⟨_, rfl⟩; rw [← hx0, ← hx1, ← hx2, ← hx3, ← hx4, ← hx5] at hnb e26; have f : ∀ j, w1.frozen? ⟨q, j, none⟩ = false := fun j => frozen_of_row w1 q j _ _ hus
      have f0 := f 0; have f1 := f 1; have f2 := f 2; have f3 := f 3; have f4 := f 4; have f5 := f 5; have c : ∀ j, w1.cell? ⟨q, j, none⟩ = [u0, u1, u2, u3, u4, u5][j]? := fun j => (cell_of_cells hus j).trans (by simp)
      have c0 := c 0; have c1 := c 1; have c2 := c 2; have c3 := c 3; have c4 := c 4; have c5 := c 5; simp at c0 c1 c2 c3 c4 c5; have hst : ((((((w1.setCell ⟨q, 0, none⟩ x0).setCell ⟨q, 1, none⟩ x1).setCell ⟨q, 2, none⟩ x2).setCell ⟨q, 3, none⟩ x3).setCell ⟨q, 4, none⟩ x4).setCell ⟨q, 5, none⟩ x5).heap[q]? = some (.cells [x0, x1, x2, x3, x4, x5].toArray 122 (0, 0)) := sets_heap0 (vs := [x0, x1, x2, x3, x4, x5]) hus rfl; have hbe : Below W.heap.size W ((((((w1.setCell ⟨q, 0, none⟩ x0).setCell ⟨q, 1, none⟩ x1).setCell ⟨q, 2, none⟩ x2).setCell ⟨q, 3, none⟩ x3).setCell ⟨q, 4, none⟩ x4).setCell ⟨q, 5, none⟩ x5) := sets_below hq [x0, x1, x2, x3, x4, x5] 0 w1 hI; have hgr : GrN W.heap.size 122 w1 ((((((w1.setCell ⟨q, 0, none⟩ x0).setCell ⟨q, 1, none⟩ x1).setCell ⟨q, 2, none⟩ x2).setCell ⟨q, 3, none⟩ x3).setCell ⟨q, 4, none⟩ x4).setCell ⟨q, 5, none⟩ x5) := GrN.row hq hus hst rfl hub hnb (by simp) (fun k hk => sets_other [x0, x1, x2, x3, x4, x5] 0 w1 k hk); refine ⟨Free.wn, ((((((w1.setCell ⟨q, 0, none⟩ x0).setCell ⟨q, 1, none⟩ x1).setCell ⟨q, 2, none⟩ x2).setCell ⟨q, 3, none⟩ x3).setCell ⟨q, 4, none⟩ x4).setCell ⟨q, 5, none⟩ x5), ?_, trivial, hgr, hbe⟩; clear hp hI hst hbe hgr hus f c hnb hub; subst hx0 hx1 hx2 hx3 hx4 hx5; go_simp
    refine Free.Seq2.val ?_ (fun _ => GrN.refl _ _ _) (fun _ _ h => h) (fun a w1 L hI hp => ?_) ?_; rotate_left
    · have e27 := hp.b 8 2; refine ⟨Free.wn, ?_⟩; clear hp; go_simp; rfl
    refine Free.Seq2.done (by simp) (fun wz L hIz hLz => ?_); simp only [List.reverse_cons, List.reverse_nil, List.nil_append, List.cons_append, Free.All, Free.eqF, forall_eq]; rintro _ ⟨us1, rfl, -⟩ _ ⟨us2, rfl, -⟩ _ ⟨us3, rfl, -⟩ _ ⟨q, us4, rfl, -, -, -, -⟩ xS -; have HIZ := Lib.hid hIz; clear hIz; simp only [Free.putL, Act.put, List.setIfInBounds_toArray, List.set_cons_zero, List.set_cons_succ]
    dsimp only [Exit.then]
    have hX0 : chkM ⟨o, d, e, k⟩ n = 0 := HX.out.symm; have HX0 := Lib.hid hX0; clear hX0; have hn := HHN.out HX0.out; have z0 := (HIZ.out.cell (p := ⟨w.heap.size, 0, none⟩) hvW).trans v0
    by_cases hds : d = self
    · have hd1 : (d == self) = true := by simpa using hds
      have hRR : R = 2 := by rw [HR.out, mayE, if_neg (by rw [HX0.out]; simp), if_pos (.inl hds)]
      have HRR := Lib.hid hRR; clear hRR hds
      go_wp2_with fail
      clear z0; refine Free.wp_seq (I := fun w' => Below W.heap.size W w') (Gr := fun w1 w2 => Below w1.heap.size w1 w2) (by kernel_rfl) (by kernel_rfl) HIZ.out.drew ?_
      apply Free.sv; intro a w1 hI hp
      · have e3 := hp.sl 3; simp at e3; refine ⟨Free.wn, ?_⟩; clear hp; go_simp; rfl
      apply Free.sv; intro a w1 hI hp
      · have e40 := hp.b 0 0; have kv0 := (hI.cell (p := ⟨w.heap.size, 0, none⟩) hvW).trans v0; refine ⟨Free.wn, ?_⟩; clear hp; go_simp; rfl
      apply Free.sv; intro a w1 hI hp
      · have e41 := hp.b 1 0; refine ⟨Free.wn, ?_⟩; clear hp; go_simp; rfl
      apply Free.sv; intro a w1 hI hp
      · have e42 := hp.b 2 0; refine ⟨Free.wn, ?_⟩; clear hp; go_simp; rfl
      apply Free.sv; intro a w1 hI hp
      · have e43 := hp.b 3 0; have e6 := hp.sl 6; simp at e6; refine ⟨hp.wt e43, ?_⟩; clear hp; go_simp; rfl
      apply Free.sv; intro a w1 hI hp
      · have e43 := hp.b 3 1; have e44 := hp.b 4 0; have ki1 := (hI.cell (p := ⟨wv.heap.size, 1, none⟩) hiW).trans i1; refine ⟨hp.wt e43, ?_⟩; clear hp; go_simp; rfl
      apply Free.sv; intro a w1 hI hp
      · have e43 := hp.b 3 2; have e0 := hp.sl 0; simp at e0; refine ⟨hp.wt e43, ?_⟩; clear hp; go_simp; rfl
      apply Free.sv; intro a w1 hI hp
      · have e43 := hp.b 3 3; have e46 := hp.b 6 0; refine ⟨hp.wt e43, ?_⟩; clear hp; go_simp; rfl
      apply Free.sv; intro a w1 hI hp
      · have e43 := hp.b 3 4; have e47 := hp.b 7 0; refine ⟨hp.wt e43, ?_⟩; clear hp; go_simp; rfl
      apply Free.sv; intro a w1 hI hp
      · have e43 := hp.b 3 5; have e48 := hp.b 8 0; have ks0 := (hI.cell (p := ⟨s, 0, none⟩) hsW).trans s0; refine ⟨hp.wt e43, ?_⟩; clear hp; go_simp; rfl
      apply Free.sv; intro a w1 hI hp
      · have e43 := hp.b 3 6; have e45 := hp.b 5 4; have e49 := hp.b 9 0; refine ⟨hp.wt e43, ?_⟩; clear hp; go_simp; rfl
      apply Free.sv; intro a w1 hI hp
      · have e43 := hp.b 3 7; have e50 := hp.b 10 0; refine ⟨hp.wt e43, ?_⟩; clear hp; go_simp; rfl
      refine Free.sp 11 0 ?_; refine Free.sp 11 1 ?_; refine Free.sp 11 2 ?_; refine Free.sp 11 3 ?_; refine Free.sp 11 4 ?_; refine Free.sp 11 5 ?_; refine Free.sp 11 6 ?_; refine Free.sp 11 7 ?_; refine Free.Seq.pass (fun a w1 hI hp => hp.passU rfl rfl rfl (hp.b 19 0)) ?_; refine Free.Seq.pass (fun a w1 hI hp => hp.passU rfl rfl rfl (hp.b 19 1)) ?_; refine Free.Seq.pass (fun a w1 hI hp => hp.passU rfl rfl rfl (hp.b 19 2)) ?_; refine Free.Seq.pass (fun a w1 hI hp => hp.passU rfl rfl rfl (hp.b 19 3)) ?_; refine Free.Seq.pass (fun a w1 hI hp => hp.passU rfl rfl rfl (hp.b 19 4)) ?_; refine Free.Seq.pass (fun a w1 hI hp => hp.passU rfl rfl rfl (hp.b 19 5)) ?_; refine Free.Seq.pass (fun a w1 hI hp => hp.passU rfl rfl rfl (hp.b 19 6)) ?_; refine Free.sp 11 15 ?_
      apply Free.sv; intro a w1 hI hp
      · have e43 := hp.b 3 24; have e51 := hp.b 11 16; have e67 := hp.b 27 0; refine ⟨hp.wt e43, ?_⟩; clear hp; go_simp; rfl
      apply Free.sv; intro a w1 hI hp
      · have e43 := hp.b 3 25; have e68 := hp.b 28 0; refine ⟨Free.wn, ?_⟩; clear hp; go_simp; rfl
      apply Free.sv; intro a w1 hI hp
      · have e69 := hp.b 29 0; refine ⟨Free.wn, ?_⟩; clear hp; go_simp; rfl
      refine Free.Seq.done (by simp) (fun wz hIz => ?_); simp only [List.reverse_cons, List.reverse_nil, List.nil_append, List.cons_append, Free.All, Free.eqF, forall_eq]; have HIZ := Lib.hid hIz; clear hIz; simp only [Free.putL, Act.put, List.setIfInBounds_toArray, List.set_cons_zero, List.set_cons_succ]
      dsimp only [Exit.then]
      go_wp2_with fail
      go_ret
      exact ⟨by rw [HRR.out]; rfl, HWW.out.trans (HIZ.out.mono (by omega))⟩
    · have hd1 : (d == self) = false := by simpa using hds
      by_cases hos : o = self
      · have ho1 : (o == self) = true := by simpa using hos
        by_cases hge : ep < e
        · have hg1 : decide (ep < e) = true := by simpa using hge
          have hRR : R = 2 := by rw [HR.out, mayE, if_neg (by rw [HX0.out]; simp), if_pos (.inr ⟨hos, hge⟩)]
          have HRR := Lib.hid hRR; clear hRR hds hos
          go_wp2_with fail
          clear z0; refine Free.wp_seq (I := fun w' => Below W.heap.size W w') (Gr := fun w1 w2 => Below w1.heap.size w1 w2) (by kernel_rfl) (by kernel_rfl) HIZ.out.drew ?_
          apply Free.sv; intro a w1 hI hp
          · have e3 := hp.sl 3; simp at e3; refine ⟨Free.wn, ?_⟩; clear hp; go_simp; rfl
          apply Free.sv; intro a w1 hI hp
          · have e40 := hp.b 0 0; have kv0 := (hI.cell (p := ⟨w.heap.size, 0, none⟩) hvW).trans v0; refine ⟨Free.wn, ?_⟩; clear hp; go_simp; rfl
          apply Free.sv; intro a w1 hI hp
          · have e41 := hp.b 1 0; refine ⟨Free.wn, ?_⟩; clear hp; go_simp; rfl
          apply Free.sv; intro a w1 hI hp
          · have e42 := hp.b 2 0; refine ⟨Free.wn, ?_⟩; clear hp; go_simp; rfl
          apply Free.sv; intro a w1 hI hp
          · have e43 := hp.b 3 0; have e6 := hp.sl 6; simp at e6; refine ⟨hp.wt e43, ?_⟩; clear hp; go_simp; rfl
          apply Free.sv; intro a w1 hI hp
          · have e43 := hp.b 3 1; have e44 := hp.b 4 0; have ki1 := (hI.cell (p := ⟨wv.heap.size, 1, none⟩) hiW).trans i1; refine ⟨hp.wt e43, ?_⟩; clear hp; go_simp; rfl
          apply Free.sv; intro a w1 hI hp
          · have e43 := hp.b 3 2; have e0 := hp.sl 0; simp at e0; refine ⟨hp.wt e43, ?_⟩; clear hp; go_simp; rfl
          apply Free.sv; intro a w1 hI hp
          · have e43 := hp.b 3 3; have e46 := hp.b 6 0; refine ⟨hp.wt e43, ?_⟩; clear hp; go_simp; rfl
          apply Free.sv; intro a w1 hI hp
          · have e43 := hp.b 3 4; have e47 := hp.b 7 0; refine ⟨hp.wt e43, ?_⟩; clear hp; go_simp; rfl
          apply Free.sv; intro a w1 hI hp
          · have e43 := hp.b 3 5; have e48 := hp.b 8 0; have ks0 := (hI.cell (p := ⟨s, 0, none⟩) hsW).trans s0; refine ⟨hp.wt e43, ?_⟩; clear hp; go_simp; rfl
          apply Free.sv; intro a w1 hI hp
          · have e43 := hp.b 3 6; have e45 := hp.b 5 4; have e49 := hp.b 9 0; refine ⟨hp.wt e43, ?_⟩; clear hp; go_simp; rfl
          apply Free.sv; intro a w1 hI hp
          · have e43 := hp.b 3 7; have e50 := hp.b 10 0; refine ⟨hp.wt e43, ?_⟩; clear hp; go_simp; rfl
          apply Free.sv; intro a w1 hI hp
          · have e51 := hp.b 11 0; have e6 := hp.sl 6; simp at e6; refine ⟨hp.wt e51, ?_⟩; clear hp; go_simp; rfl
          apply Free.sv; intro a w1 hI hp
          · have e51 := hp.b 11 1; have e52 := hp.b 12 0; have ki0 := (hI.cell (p := ⟨wv.heap.size, 0, none⟩) hiW).trans i0; refine ⟨hp.wt e51, ?_⟩; clear hp; go_simp; rfl
          apply Free.sv; intro a w1 hI hp
          · have e51 := hp.b 11 2; have e0 := hp.sl 0; simp at e0; refine ⟨hp.wt e51, ?_⟩; clear hp; go_simp; rfl
          apply Free.sv; intro a w1 hI hp
          · have e51 := hp.b 11 3; have e54 := hp.b 14 0; refine ⟨hp.wt e51, ?_⟩; clear hp; go_simp; rfl
          apply Free.sv; intro a w1 hI hp
          · have e51 := hp.b 11 4; have e55 := hp.b 15 0; refine ⟨hp.wt e51, ?_⟩; clear hp; go_simp; rfl
          apply Free.sv; intro a w1 hI hp
          · have e51 := hp.b 11 5; have e56 := hp.b 16 0; have ks0 := (hI.cell (p := ⟨s, 0, none⟩) hsW).trans s0; refine ⟨hp.wt e51, ?_⟩; clear hp; go_simp; rfl
          apply Free.sv; intro a w1 hI hp
          · have e51 := hp.b 11 6; have e53 := hp.b 13 4; have e57 := hp.b 17 0; refine ⟨hp.wt e51, ?_⟩; clear hp; go_simp; rfl
          apply Free.sv; intro a w1 hI hp
          · have e51 := hp.b 11 7; have e58 := hp.b 18 0; refine ⟨hp.wt e51, ?_⟩; clear hp; go_simp; rfl
          apply Free.sv; intro a w1 hI hp
          · have e59 := hp.b 19 0; have e6 := hp.sl 6; simp at e6; refine ⟨hp.wt e59, ?_⟩; clear hp; go_simp; rfl
          apply Free.sv; intro a w1 hI hp
          · have e59 := hp.b 19 1; have e60 := hp.b 20 0; have ki2 := (hI.cell (p := ⟨wv.heap.size, 2, none⟩) hiW).trans i2; refine ⟨hp.wt e59, ?_⟩; clear hp; go_simp; rfl
          apply Free.sv; intro a w1 hI hp
          · have e59 := hp.b 19 2; have e0 := hp.sl 0; simp at e0; refine ⟨hp.wt e59, ?_⟩; clear hp; go_simp; rfl
          apply Free.sv; intro a w1 hI hp
          · have e59 := hp.b 19 3; have e62 := hp.b 22 0; refine ⟨hp.wt e59, ?_⟩; clear hp; go_simp; rfl
          apply Free.sv; intro a w1 hI hp
          · have e59 := hp.b 19 4; have e63 := hp.b 23 0; refine ⟨hp.wt e59, ?_⟩; clear hp; go_simp; rfl
          apply Free.sv; intro a w1 hI hp
          · have e59 := hp.b 19 5; have e64 := hp.b 24 0; have ks4 := (hI.cell (p := ⟨s, 4, none⟩) hsW).trans s4; refine ⟨hp.wt e59, ?_⟩; clear hp; go_simp; rfl
          apply Free.sv; intro a w1 hI hp
          · have e59 := hp.b 19 6; have e61 := hp.b 21 4; have e65 := hp.b 25 0; refine ⟨hp.wt e59, ?_⟩; clear hp; go_simp; rfl
          apply Free.sv; intro a w1 hI hp
          · have e51 := hp.b 11 15; have e59 := hp.b 19 7; have e66 := hp.b 26 0; refine ⟨hp.wt e51, ?_⟩; clear hp; go_simp; rfl
          apply Free.sv; intro a w1 hI hp
          · have e43 := hp.b 3 24; have e51 := hp.b 11 16; have e67 := hp.b 27 0; refine ⟨hp.wt e43, ?_⟩; clear hp; go_simp; rfl
          apply Free.sv; intro a w1 hI hp
          · have e43 := hp.b 3 25; have e68 := hp.b 28 0; refine ⟨Free.wn, ?_⟩; clear hp; go_simp; rfl
          apply Free.sv; intro a w1 hI hp
          · have e69 := hp.b 29 0; refine ⟨Free.wn, ?_⟩; clear hp; go_simp; rfl
          refine Free.Seq.done (by simp) (fun wz hIz => ?_); simp only [List.reverse_cons, List.reverse_nil, List.nil_append, List.cons_append, Free.All, Free.eqF, forall_eq]; have HIZ := Lib.hid hIz; clear hIz; simp only [Free.putL, Act.put, List.setIfInBounds_toArray, List.set_cons_zero, List.set_cons_succ]
          dsimp only [Exit.then]
          go_wp2_with fail
          go_ret
          exact ⟨by rw [HRR.out]; rfl, HWW.out.trans (HIZ.out.mono (by omega))⟩
        · have hg1 : decide (ep < e) = false := by simpa using hge
          have HRR : Hid (R = if (⟨o, d, e, k⟩ : Mid) ∈ ids then 5 else 0) := by
            show R = _
            rw [HR.out, mayE, if_neg (by rw [HX0.out]; simp), if_neg (by rintro (h | ⟨-, h⟩) <;> first | exact hds h | exact hge h)]
          clear hds hos
          go_wp2_with fail
          clear z0; refine Free.wp_seq (I := fun w' => Below W.heap.size W w') (Gr := fun w1 w2 => Below w1.heap.size w1 w2) (by kernel_rfl) (by kernel_rfl) HIZ.out.drew ?_
          apply Free.sv; intro a w1 hI hp
          · have e3 := hp.sl 3; simp at e3; refine ⟨Free.wn, ?_⟩; clear hp; go_simp; rfl
          apply Free.sv; intro a w1 hI hp
          · have e40 := hp.b 0 0; have kv0 := (hI.cell (p := ⟨w.heap.size, 0, none⟩) hvW).trans v0; refine ⟨Free.wn, ?_⟩; clear hp; go_simp; rfl
          apply Free.sv; intro a w1 hI hp
          · have e41 := hp.b 1 0; refine ⟨Free.wn, ?_⟩; clear hp; go_simp; rfl
          apply Free.sv; intro a w1 hI hp
          · have e42 := hp.b 2 0; refine ⟨Free.wn, ?_⟩; clear hp; go_simp; rfl
          apply Free.sv; intro a w1 hI hp
          · have e43 := hp.b 3 0; have e6 := hp.sl 6; simp at e6; refine ⟨hp.wt e43, ?_⟩; clear hp; go_simp; rfl
          apply Free.sv; intro a w1 hI hp
          · have e43 := hp.b 3 1; have e44 := hp.b 4 0; have ki1 := (hI.cell (p := ⟨wv.heap.size, 1, none⟩) hiW).trans i1; refine ⟨hp.wt e43, ?_⟩; clear hp; go_simp; rfl
          apply Free.sv; intro a w1 hI hp
          · have e43 := hp.b 3 2; have e0 := hp.sl 0; simp at e0; refine ⟨hp.wt e43, ?_⟩; clear hp; go_simp; rfl
          apply Free.sv; intro a w1 hI hp
          · have e43 := hp.b 3 3; have e46 := hp.b 6 0; refine ⟨hp.wt e43, ?_⟩; clear hp; go_simp; rfl
          apply Free.sv; intro a w1 hI hp
          · have e43 := hp.b 3 4; have e47 := hp.b 7 0; refine ⟨hp.wt e43, ?_⟩; clear hp; go_simp; rfl
          apply Free.sv; intro a w1 hI hp
          · have e43 := hp.b 3 5; have e48 := hp.b 8 0; have ks0 := (hI.cell (p := ⟨s, 0, none⟩) hsW).trans s0; refine ⟨hp.wt e43, ?_⟩; clear hp; go_simp; rfl
          apply Free.sv; intro a w1 hI hp
          · have e43 := hp.b 3 6; have e45 := hp.b 5 4; have e49 := hp.b 9 0; refine ⟨hp.wt e43, ?_⟩; clear hp; go_simp; rfl
          apply Free.sv; intro a w1 hI hp
          · have e43 := hp.b 3 7; have e50 := hp.b 10 0; refine ⟨hp.wt e43, ?_⟩; clear hp; go_simp; rfl
          apply Free.sv; intro a w1 hI hp
          · have e51 := hp.b 11 0; have e6 := hp.sl 6; simp at e6; refine ⟨hp.wt e51, ?_⟩; clear hp; go_simp; rfl
          apply Free.sv; intro a w1 hI hp
          · have e51 := hp.b 11 1; have e52 := hp.b 12 0; have ki0 := (hI.cell (p := ⟨wv.heap.size, 0, none⟩) hiW).trans i0; refine ⟨hp.wt e51, ?_⟩; clear hp; go_simp; rfl
          apply Free.sv; intro a w1 hI hp
          · have e51 := hp.b 11 2; have e0 := hp.sl 0; simp at e0; refine ⟨hp.wt e51, ?_⟩; clear hp; go_simp; rfl
          apply Free.sv; intro a w1 hI hp
          · have e51 := hp.b 11 3; have e54 := hp.b 14 0; refine ⟨hp.wt e51, ?_⟩; clear hp; go_simp; rfl
          apply Free.sv; intro a w1 hI hp
          · have e51 := hp.b 11 4; have e55 := hp.b 15 0; refine ⟨hp.wt e51, ?_⟩; clear hp; go_simp; rfl
          apply Free.sv; intro a w1 hI hp
          · have e51 := hp.b 11 5; have e56 := hp.b 16 0; have ks0 := (hI.cell (p := ⟨s, 0, none⟩) hsW).trans s0; refine ⟨hp.wt e51, ?_⟩; clear hp; go_simp; rfl
          apply Free.sv; intro a w1 hI hp
          · have e51 := hp.b 11 6; have e53 := hp.b 13 4; have e57 := hp.b 17 0; refine ⟨hp.wt e51, ?_⟩; clear hp; go_simp; rfl
          apply Free.sv; intro a w1 hI hp
          · have e51 := hp.b 11 7; have e58 := hp.b 18 0; refine ⟨hp.wt e51, ?_⟩; clear hp; go_simp; rfl
          apply Free.sv; intro a w1 hI hp
          · have e59 := hp.b 19 0; have e6 := hp.sl 6; simp at e6; refine ⟨hp.wt e59, ?_⟩; clear hp; go_simp; rfl
          apply Free.sv; intro a w1 hI hp
          · have e59 := hp.b 19 1; have e60 := hp.b 20 0; have ki2 := (hI.cell (p := ⟨wv.heap.size, 2, none⟩) hiW).trans i2; refine ⟨hp.wt e59, ?_⟩; clear hp; go_simp; rfl
          apply Free.sv; intro a w1 hI hp
          · have e59 := hp.b 19 2; have e0 := hp.sl 0; simp at e0; refine ⟨hp.wt e59, ?_⟩; clear hp; go_simp; rfl
          apply Free.sv; intro a w1 hI hp
          · have e59 := hp.b 19 3; have e62 := hp.b 22 0; refine ⟨hp.wt e59, ?_⟩; clear hp; go_simp; rfl
          apply Free.sv; intro a w1 hI hp
          · have e59 := hp.b 19 4; have e63 := hp.b 23 0; refine ⟨hp.wt e59, ?_⟩; clear hp; go_simp; rfl
          apply Free.sv; intro a w1 hI hp
          · have e59 := hp.b 19 5; have e64 := hp.b 24 0; have ks4 := (hI.cell (p := ⟨s, 4, none⟩) hsW).trans s4; refine ⟨hp.wt e59, ?_⟩; clear hp; go_simp; rfl
          apply Free.sv; intro a w1 hI hp
          · have e59 := hp.b 19 6; have e61 := hp.b 21 4; have e65 := hp.b 25 0; refine ⟨hp.wt e59, ?_⟩; clear hp; go_simp; rfl
          apply Free.sv; intro a w1 hI hp
          · have e51 := hp.b 11 15; have e59 := hp.b 19 7; have e66 := hp.b 26 0; refine ⟨hp.wt e51, ?_⟩; clear hp; go_simp; rfl
          apply Free.sv; intro a w1 hI hp
          · have e43 := hp.b 3 24; have e51 := hp.b 11 16; have e67 := hp.b 27 0; refine ⟨hp.wt e43, ?_⟩; clear hp; go_simp; rfl
          apply Free.sv; intro a w1 hI hp
          · have e43 := hp.b 3 25; have e68 := hp.b 28 0; refine ⟨Free.wn, ?_⟩; clear hp; go_simp; rfl
          apply Free.sv; intro a w1 hI hp
          · have e69 := hp.b 29 0; refine ⟨Free.wn, ?_⟩; clear hp; go_simp; rfl
          refine Free.Seq.done (by simp) (fun wz hIz => ?_); simp only [List.reverse_cons, List.reverse_nil, List.nil_append, List.cons_append, Free.All, Free.eqF, forall_eq]; have HIZ := Lib.hid hIz; clear hIz; simp only [Free.putL, Act.put, List.setIfInBounds_toArray, List.set_cons_zero, List.set_cons_succ]
          dsimp only [Exit.then]
          go_wp2_with fail
          refine Free.wp_seq (I := fun w' => Below W.heap.size W w') (Gr := fun w1 w2 => Below w1.heap.size w1 w2) (by kernel_rfl) (by kernel_rfl) HIZ.out.drew ?_
          apply Free.sv; intro a w1 hI hp
          · have e3 := hp.sl 3; simp at e3; refine ⟨Free.wn, ?_⟩; clear hp; go_simp; rfl
          apply Free.sv; intro a w1 hI hp
          · have e70 := hp.b 0 0; have kv0 := (hI.cell (p := ⟨w.heap.size, 0, none⟩) hvW).trans v0; refine ⟨Free.wn, ?_⟩; clear hp; go_simp; rfl
          apply Free.sv; intro a w1 hI hp
          · have e71 := hp.b 1 0; refine ⟨Free.wn, ?_⟩; clear hp; go_simp; rfl
          apply Free.sv; intro a w1 hI hp
          · have e72 := hp.b 2 0; refine ⟨Free.wn, ?_⟩; clear hp; go_simp; rfl
          refine Free.sp 3 0 ?_; refine Free.sp 3 1 ?_; refine Free.sp 3 2 ?_; refine Free.sp 3 3 ?_; refine Free.sp 3 4 ?_; refine Free.sp 3 5 ?_; refine Free.sp 3 6 ?_
          apply Free.sv; intro a w1 hI hp
          · have e73 := hp.b 3 7; have e80 := hp.b 10 0; refine ⟨Free.wn, ?_⟩; clear hp; go_simp; rfl
          apply Free.sv; intro a w1 hI hp
          · have e81 := hp.b 11 0; refine ⟨Free.wn, ?_⟩; clear hp; go_simp; rfl
          refine Free.Seq.done (by simp) (fun wz hIz => ?_); simp only [List.reverse_cons, List.reverse_nil, List.nil_append, List.cons_append, Free.All, Free.eqF, forall_eq]; have HIZ := Lib.hid hIz; clear hIz; simp only [Free.putL, Act.put, List.setIfInBounds_toArray, List.set_cons_zero, List.set_cons_succ]
          dsimp only [Exit.then]
          have z0 := (HIZ.out.cell (p := ⟨w.heap.size, 0, none⟩) hvW).trans v0
          by_cases hh : H = true
          · have hRR : R = 5 := by
              have h1 := HH.out; rw [hh] at h1; rw [HRR.out, if_pos (by simpa using h1.symm)]
            have HR5 := Lib.hid hRR; clear hRR; subst hh
            go_wp2_with fail
            go_ret
            exact ⟨by rw [HR5.out]; rfl, HWW.out.trans (HIZ.out.mono (by omega))⟩
          · have hh : H = false := by simpa using hh
            have hRR : R = 0 := by
              have h1 := HH.out; rw [hh] at h1; rw [HRR.out, if_neg (by simpa using h1.symm)]
            have HR5 := Lib.hid hRR; clear hRR; subst hh; have hge2 : decide (qh ≤ (kv.length : Int)) = false := by simp; omega
            have hsub : IntKind.i64.wrap (qb - by_) = qb - by_ := IntWalk.i64_in _ (by omega); have hgt2 : decide (qb - by_ < (n : Int)) = false := by simp; omega
            go_wp2_with fail
            clear z0; refine Free.wp_seq (I := fun w' => Below W.heap.size W w') (Gr := fun w1 w2 => Below w1.heap.size w1 w2) (by kernel_rfl) (by kernel_rfl) HIZ.out.drew ?_
            apply Free.sv; intro a w1 hI hp
            · have e3 := hp.sl 3; simp at e3; refine ⟨Free.wn, ?_⟩; clear hp; go_simp; rfl
            apply Free.sv; intro a w1 hI hp
            · have e90 := hp.b 0 0; have kv0 := (hI.cell (p := ⟨w.heap.size, 0, none⟩) hvW).trans v0; refine ⟨Free.wn, ?_⟩; clear hp; go_simp; rfl
            apply Free.sv; intro a w1 hI hp
            · have e91 := hp.b 1 0; refine ⟨Free.wn, ?_⟩; clear hp; go_simp; rfl
            apply Free.sv; intro a w1 hI hp
            · have e92 := hp.b 2 0; refine ⟨Free.wn, ?_⟩; clear hp; go_simp; rfl
            apply Free.sv; intro a w1 hI hp
            · have e93 := hp.b 3 0; have e0 := hp.sl 0; simp at e0; refine ⟨hp.wt e93, ?_⟩; clear hp; go_simp; rfl
            apply Free.sv; intro a w1 hI hp
            · have e93 := hp.b 3 1; have e94 := hp.b 4 0; refine ⟨hp.wt e93, ?_⟩; clear hp; go_simp; rfl
            apply Free.sv; intro a w1 hI hp
            · have e93 := hp.b 3 2; have e95 := hp.b 5 0; refine ⟨hp.wt e93, ?_⟩; clear hp; go_simp; rfl
            apply Free.sv; intro a w1 hI hp
            · have e93 := hp.b 3 3; have e96 := hp.b 6 0; have ks69 := (hI.cell (p := ⟨s, 69, none⟩) hsW).trans s69; refine ⟨hp.wt e93, ?_⟩; clear hp; go_simp; rfl
            apply Free.sv; intro a w1 hI hp
            · have e93 := hp.b 3 4; have e97 := hp.b 7 0; have hl := fun ty => len_map (P := Try.prog) (M := 96) Try.underlying96 (HMW.out.keep (hI.block hm hmW)) ty
              refine ⟨hp.wt e93, ?_⟩; clear hp; go_simp; rfl
            apply Free.sv; intro a w1 hI hp
            · have e93 := hp.b 3 5; have e0 := hp.sl 0; simp at e0; refine ⟨hp.wt e93, ?_⟩; clear hp; go_simp; rfl
            apply Free.sv; intro a w1 hI hp
            · have e93 := hp.b 3 6; have e99 := hp.b 9 0; refine ⟨hp.wt e93, ?_⟩; clear hp; go_simp; rfl
            apply Free.sv; intro a w1 hI hp
            · have e93 := hp.b 3 7; have e100 := hp.b 10 0; refine ⟨hp.wt e93, ?_⟩; clear hp; go_simp; rfl
            apply Free.sv; intro a w1 hI hp
            · have e93 := hp.b 3 8; have e101 := hp.b 11 0; refine ⟨hp.wt e93, ?_⟩; clear hp; go_simp; rfl
            apply Free.sv; intro a w1 hI hp
            · have e93 := hp.b 3 9; have e102 := hp.b 12 0; have ks1 := (hI.cell (p := ⟨s, 1, none⟩) hsW).trans s1; refine ⟨hp.wt e93, ?_⟩; clear hp; go_simp; rfl
            apply Free.sv; intro a w1 hI hp
            · have e93 := hp.b 3 10; have e98 := hp.b 8 5; have e103 := hp.b 13 0; refine ⟨hp.wt e93, ?_⟩; clear hp; go_simp; rfl
            apply Free.sv; intro a w1 hI hp
            · have e93 := hp.b 3 11; have e104 := hp.b 14 0; refine ⟨hp.wt e93, ?_⟩; clear hp; go_simp; rfl
            apply Free.sv; intro a w1 hI hp
            · have e105 := hp.b 15 0; have e3 := hp.sl 3; simp at e3; refine ⟨hp.wt e105, ?_⟩; clear hp; go_simp; rfl
            apply Free.sv; intro a w1 hI hp
            · have e105 := hp.b 15 1; have e106 := hp.b 16 0; refine ⟨hp.wt e105, ?_⟩; clear hp; go_simp; rfl
            apply Free.sv; intro a w1 hI hp
            · have e105 := hp.b 15 2; have e107 := hp.b 17 0; have kv5 := (hI.cell (p := ⟨w.heap.size, 5, none⟩) hvW).trans v5; refine ⟨hp.wt e105, ?_⟩; clear hp; go_simp; rfl
            apply Free.sv; intro a w1 hI hp
            · have e105 := hp.b 15 3; have e108 := hp.b 18 0; refine ⟨hp.wt e105, ?_⟩; clear hp; go_simp; rfl
            apply Free.sv; intro a w1 hI hp
            · have e105 := hp.b 15 4; have e0 := hp.sl 0; simp at e0; refine ⟨hp.wt e105, ?_⟩; clear hp; go_simp; rfl
            apply Free.sv; intro a w1 hI hp
            · have e105 := hp.b 15 5; have e110 := hp.b 20 0; refine ⟨hp.wt e105, ?_⟩; clear hp; go_simp; rfl
            apply Free.sv; intro a w1 hI hp
            · have e105 := hp.b 15 6; have e111 := hp.b 21 0; refine ⟨hp.wt e105, ?_⟩; clear hp; go_simp; rfl
            apply Free.sv; intro a w1 hI hp
            · have e105 := hp.b 15 7; have e112 := hp.b 22 0; refine ⟨hp.wt e105, ?_⟩; clear hp; go_simp; rfl
            apply Free.sv; intro a w1 hI hp
            · have e105 := hp.b 15 8; have e113 := hp.b 23 0; have ks2 := (hI.cell (p := ⟨s, 2, none⟩) hsW).trans s2; refine ⟨hp.wt e105, ?_⟩; clear hp; go_simp; rfl
            apply Free.sv; intro a w1 hI hp
            · have e105 := hp.b 15 9; have e0 := hp.sl 0; simp at e0; refine ⟨hp.wt e105, ?_⟩; clear hp; go_simp; rfl
            apply Free.sv; intro a w1 hI hp
            · have e105 := hp.b 15 10; have e115 := hp.b 25 0; refine ⟨hp.wt e105, ?_⟩; clear hp; go_simp; rfl
            apply Free.sv; intro a w1 hI hp
            · have e105 := hp.b 15 11; have e116 := hp.b 26 0; refine ⟨hp.wt e105, ?_⟩; clear hp; go_simp; rfl
            apply Free.sv; intro a w1 hI hp
            · have e105 := hp.b 15 12; have e117 := hp.b 27 0; have ks71 := (hI.cell (p := ⟨s, 71, none⟩) hsW).trans s71; refine ⟨hp.wt e105, ?_⟩; clear hp; go_simp; rfl
            apply Free.sv; intro a w1 hI hp
            · have e105 := hp.b 15 13; have e114 := hp.b 24 4; have e118 := hp.b 28 0; refine ⟨hp.wt e105, ?_⟩; clear hp; go_simp; rfl
            apply Free.sv; intro a w1 hI hp
            · have e105 := hp.b 15 14; have e109 := hp.b 19 10; have e119 := hp.b 29 0; refine ⟨hp.wt e105, ?_⟩; clear hp; go_simp; rfl
            apply Free.sv; intro a w1 hI hp
            · have e93 := hp.b 3 27; have e105 := hp.b 15 15; have e120 := hp.b 30 0; refine ⟨hp.wt e93, ?_⟩; clear hp; go_simp; rfl
            apply Free.sv; intro a w1 hI hp
            · have e93 := hp.b 3 28; have e121 := hp.b 31 0; refine ⟨Free.wn, ?_⟩; clear hp; go_simp; rfl
            apply Free.sv; intro a w1 hI hp
            · have e122 := hp.b 32 0; refine ⟨Free.wn, ?_⟩; clear hp; go_simp; rfl
            refine Free.Seq.done (by simp) (fun wz hIz => ?_); simp only [List.reverse_cons, List.reverse_nil, List.nil_append, List.cons_append, Free.All, Free.eqF, forall_eq]; have HIZ := Lib.hid hIz; clear hIz; simp only [Free.putL, Act.put, List.setIfInBounds_toArray, List.set_cons_zero, List.set_cons_succ]
            dsimp only [Exit.then]
            have z0 := (HIZ.out.cell (p := ⟨w.heap.size, 0, none⟩) hvW).trans v0
            go_wp2_with fail
            go_ret
            exact ⟨by rw [HR5.out]; rfl, HWW.out.trans (HIZ.out.mono (by omega))⟩
      · have ho1 : (o == self) = false := by simpa using hos
        have HRR : Hid (R = if (⟨o, d, e, k⟩ : Mid) ∈ ids then 5 else 0) := by
          show R = _
          rw [HR.out, mayE, if_neg (by rw [HX0.out]; simp), if_neg (by rintro (h | ⟨h, -⟩) <;> first | exact hds h | exact hos h)]
        clear hds hos
        go_wp2_with fail
        clear z0; refine Free.wp_seq (I := fun w' => Below W.heap.size W w') (Gr := fun w1 w2 => Below w1.heap.size w1 w2) (by kernel_rfl) (by kernel_rfl) HIZ.out.drew ?_
        apply Free.sv; intro a w1 hI hp
        · have e3 := hp.sl 3; simp at e3; refine ⟨Free.wn, ?_⟩; clear hp; go_simp; rfl
        apply Free.sv; intro a w1 hI hp
        · have e40 := hp.b 0 0; have kv0 := (hI.cell (p := ⟨w.heap.size, 0, none⟩) hvW).trans v0; refine ⟨Free.wn, ?_⟩; clear hp; go_simp; rfl
        apply Free.sv; intro a w1 hI hp
        · have e41 := hp.b 1 0; refine ⟨Free.wn, ?_⟩; clear hp; go_simp; rfl
        apply Free.sv; intro a w1 hI hp
        · have e42 := hp.b 2 0; refine ⟨Free.wn, ?_⟩; clear hp; go_simp; rfl
        apply Free.sv; intro a w1 hI hp
        · have e43 := hp.b 3 0; have e6 := hp.sl 6; simp at e6; refine ⟨hp.wt e43, ?_⟩; clear hp; go_simp; rfl
        apply Free.sv; intro a w1 hI hp
        · have e43 := hp.b 3 1; have e44 := hp.b 4 0; have ki1 := (hI.cell (p := ⟨wv.heap.size, 1, none⟩) hiW).trans i1; refine ⟨hp.wt e43, ?_⟩; clear hp; go_simp; rfl
        apply Free.sv; intro a w1 hI hp
        · have e43 := hp.b 3 2; have e0 := hp.sl 0; simp at e0; refine ⟨hp.wt e43, ?_⟩; clear hp; go_simp; rfl
        apply Free.sv; intro a w1 hI hp
        · have e43 := hp.b 3 3; have e46 := hp.b 6 0; refine ⟨hp.wt e43, ?_⟩; clear hp; go_simp; rfl
        apply Free.sv; intro a w1 hI hp
        · have e43 := hp.b 3 4; have e47 := hp.b 7 0; refine ⟨hp.wt e43, ?_⟩; clear hp; go_simp; rfl
        apply Free.sv; intro a w1 hI hp
        · have e43 := hp.b 3 5; have e48 := hp.b 8 0; have ks0 := (hI.cell (p := ⟨s, 0, none⟩) hsW).trans s0; refine ⟨hp.wt e43, ?_⟩; clear hp; go_simp; rfl
        apply Free.sv; intro a w1 hI hp
        · have e43 := hp.b 3 6; have e45 := hp.b 5 4; have e49 := hp.b 9 0; refine ⟨hp.wt e43, ?_⟩; clear hp; go_simp; rfl
        apply Free.sv; intro a w1 hI hp
        · have e43 := hp.b 3 7; have e50 := hp.b 10 0; refine ⟨hp.wt e43, ?_⟩; clear hp; go_simp; rfl
        apply Free.sv; intro a w1 hI hp
        · have e51 := hp.b 11 0; have e6 := hp.sl 6; simp at e6; refine ⟨hp.wt e51, ?_⟩; clear hp; go_simp; rfl
        apply Free.sv; intro a w1 hI hp
        · have e51 := hp.b 11 1; have e52 := hp.b 12 0; have ki0 := (hI.cell (p := ⟨wv.heap.size, 0, none⟩) hiW).trans i0; refine ⟨hp.wt e51, ?_⟩; clear hp; go_simp; rfl
        apply Free.sv; intro a w1 hI hp
        · have e51 := hp.b 11 2; have e0 := hp.sl 0; simp at e0; refine ⟨hp.wt e51, ?_⟩; clear hp; go_simp; rfl
        apply Free.sv; intro a w1 hI hp
        · have e51 := hp.b 11 3; have e54 := hp.b 14 0; refine ⟨hp.wt e51, ?_⟩; clear hp; go_simp; rfl
        apply Free.sv; intro a w1 hI hp
        · have e51 := hp.b 11 4; have e55 := hp.b 15 0; refine ⟨hp.wt e51, ?_⟩; clear hp; go_simp; rfl
        apply Free.sv; intro a w1 hI hp
        · have e51 := hp.b 11 5; have e56 := hp.b 16 0; have ks0 := (hI.cell (p := ⟨s, 0, none⟩) hsW).trans s0; refine ⟨hp.wt e51, ?_⟩; clear hp; go_simp; rfl
        apply Free.sv; intro a w1 hI hp
        · have e51 := hp.b 11 6; have e53 := hp.b 13 4; have e57 := hp.b 17 0; refine ⟨hp.wt e51, ?_⟩; clear hp; go_simp; rfl
        apply Free.sv; intro a w1 hI hp
        · have e51 := hp.b 11 7; have e58 := hp.b 18 0; refine ⟨hp.wt e51, ?_⟩; clear hp; go_simp; rfl
        refine Free.sp 19 0 ?_; refine Free.sp 19 1 ?_; refine Free.sp 19 2 ?_; refine Free.sp 19 3 ?_; refine Free.sp 19 4 ?_; refine Free.sp 19 5 ?_; refine Free.sp 19 6 ?_
        apply Free.sv; intro a w1 hI hp
        · have e51 := hp.b 11 15; have e59 := hp.b 19 7; have e66 := hp.b 26 0; refine ⟨hp.wt e51, ?_⟩; clear hp; go_simp; rfl
        apply Free.sv; intro a w1 hI hp
        · have e43 := hp.b 3 24; have e51 := hp.b 11 16; have e67 := hp.b 27 0; refine ⟨hp.wt e43, ?_⟩; clear hp; go_simp; rfl
        apply Free.sv; intro a w1 hI hp
        · have e43 := hp.b 3 25; have e68 := hp.b 28 0; refine ⟨Free.wn, ?_⟩; clear hp; go_simp; rfl
        apply Free.sv; intro a w1 hI hp
        · have e69 := hp.b 29 0; refine ⟨Free.wn, ?_⟩; clear hp; go_simp; rfl
        refine Free.Seq.done (by simp) (fun wz hIz => ?_); simp only [List.reverse_cons, List.reverse_nil, List.nil_append, List.cons_append, Free.All, Free.eqF, forall_eq]; have HIZ := Lib.hid hIz; clear hIz; simp only [Free.putL, Act.put, List.setIfInBounds_toArray, List.set_cons_zero, List.set_cons_succ]
        dsimp only [Exit.then]
        go_wp2_with fail
        refine Free.wp_seq (I := fun w' => Below W.heap.size W w') (Gr := fun w1 w2 => Below w1.heap.size w1 w2) (by kernel_rfl) (by kernel_rfl) HIZ.out.drew ?_
        apply Free.sv; intro a w1 hI hp
        · have e3 := hp.sl 3; simp at e3; refine ⟨Free.wn, ?_⟩; clear hp; go_simp; rfl
        apply Free.sv; intro a w1 hI hp
        · have e70 := hp.b 0 0; have kv0 := (hI.cell (p := ⟨w.heap.size, 0, none⟩) hvW).trans v0; refine ⟨Free.wn, ?_⟩; clear hp; go_simp; rfl
        apply Free.sv; intro a w1 hI hp
        · have e71 := hp.b 1 0; refine ⟨Free.wn, ?_⟩; clear hp; go_simp; rfl
        apply Free.sv; intro a w1 hI hp
        · have e72 := hp.b 2 0; refine ⟨Free.wn, ?_⟩; clear hp; go_simp; rfl
        refine Free.sp 3 0 ?_; refine Free.sp 3 1 ?_; refine Free.sp 3 2 ?_; refine Free.sp 3 3 ?_; refine Free.sp 3 4 ?_; refine Free.sp 3 5 ?_; refine Free.sp 3 6 ?_
        apply Free.sv; intro a w1 hI hp
        · have e73 := hp.b 3 7; have e80 := hp.b 10 0; refine ⟨Free.wn, ?_⟩; clear hp; go_simp; rfl
        apply Free.sv; intro a w1 hI hp
        · have e81 := hp.b 11 0; refine ⟨Free.wn, ?_⟩; clear hp; go_simp; rfl
        refine Free.Seq.done (by simp) (fun wz hIz => ?_); simp only [List.reverse_cons, List.reverse_nil, List.nil_append, List.cons_append, Free.All, Free.eqF, forall_eq]; have HIZ := Lib.hid hIz; clear hIz; simp only [Free.putL, Act.put, List.setIfInBounds_toArray, List.set_cons_zero, List.set_cons_succ]
        dsimp only [Exit.then]
        have z0 := (HIZ.out.cell (p := ⟨w.heap.size, 0, none⟩) hvW).trans v0
        by_cases hh : H = true
        · have hRR : R = 5 := by
            have h1 := HH.out; rw [hh] at h1; rw [HRR.out, if_pos (by simpa using h1.symm)]
          have HR5 := Lib.hid hRR; clear hRR; subst hh
          go_wp2_with fail
          go_ret
          exact ⟨by rw [HR5.out]; rfl, HWW.out.trans (HIZ.out.mono (by omega))⟩
        · have hh : H = false := by simpa using hh
          have hRR : R = 0 := by
            have h1 := HH.out; rw [hh] at h1; rw [HRR.out, if_neg (by simpa using h1.symm)]
          have HR5 := Lib.hid hRR; clear hRR; subst hh; have hge2 : decide (qh ≤ (kv.length : Int)) = false := by simp; omega
          have hsub : IntKind.i64.wrap (qb - by_) = qb - by_ := IntWalk.i64_in _ (by omega); have hgt2 : decide (qb - by_ < (n : Int)) = false := by simp; omega
          go_wp2_with fail
          clear z0; refine Free.wp_seq (I := fun w' => Below W.heap.size W w') (Gr := fun w1 w2 => Below w1.heap.size w1 w2) (by kernel_rfl) (by kernel_rfl) HIZ.out.drew ?_
          apply Free.sv; intro a w1 hI hp
          · have e3 := hp.sl 3; simp at e3; refine ⟨Free.wn, ?_⟩; clear hp; go_simp; rfl
          apply Free.sv; intro a w1 hI hp
          · have e90 := hp.b 0 0; have kv0 := (hI.cell (p := ⟨w.heap.size, 0, none⟩) hvW).trans v0; refine ⟨Free.wn, ?_⟩; clear hp; go_simp; rfl
          apply Free.sv; intro a w1 hI hp
          · have e91 := hp.b 1 0; refine ⟨Free.wn, ?_⟩; clear hp; go_simp; rfl
          apply Free.sv; intro a w1 hI hp
          · have e92 := hp.b 2 0; refine ⟨Free.wn, ?_⟩; clear hp; go_simp; rfl
          apply Free.sv; intro a w1 hI hp
          · have e93 := hp.b 3 0; have e0 := hp.sl 0; simp at e0; refine ⟨hp.wt e93, ?_⟩; clear hp; go_simp; rfl
          apply Free.sv; intro a w1 hI hp
          · have e93 := hp.b 3 1; have e94 := hp.b 4 0; refine ⟨hp.wt e93, ?_⟩; clear hp; go_simp; rfl
          apply Free.sv; intro a w1 hI hp
          · have e93 := hp.b 3 2; have e95 := hp.b 5 0; refine ⟨hp.wt e93, ?_⟩; clear hp; go_simp; rfl
          apply Free.sv; intro a w1 hI hp
          · have e93 := hp.b 3 3; have e96 := hp.b 6 0; have ks69 := (hI.cell (p := ⟨s, 69, none⟩) hsW).trans s69; refine ⟨hp.wt e93, ?_⟩; clear hp; go_simp; rfl
          apply Free.sv; intro a w1 hI hp
          · have e93 := hp.b 3 4; have e97 := hp.b 7 0; have hl := fun ty => len_map (P := Try.prog) (M := 96) Try.underlying96 (HMW.out.keep (hI.block hm hmW)) ty
            refine ⟨hp.wt e93, ?_⟩; clear hp; go_simp; rfl
          apply Free.sv; intro a w1 hI hp
          · have e93 := hp.b 3 5; have e0 := hp.sl 0; simp at e0; refine ⟨hp.wt e93, ?_⟩; clear hp; go_simp; rfl
          apply Free.sv; intro a w1 hI hp
          · have e93 := hp.b 3 6; have e99 := hp.b 9 0; refine ⟨hp.wt e93, ?_⟩; clear hp; go_simp; rfl
          apply Free.sv; intro a w1 hI hp
          · have e93 := hp.b 3 7; have e100 := hp.b 10 0; refine ⟨hp.wt e93, ?_⟩; clear hp; go_simp; rfl
          apply Free.sv; intro a w1 hI hp
          · have e93 := hp.b 3 8; have e101 := hp.b 11 0; refine ⟨hp.wt e93, ?_⟩; clear hp; go_simp; rfl
          apply Free.sv; intro a w1 hI hp
          · have e93 := hp.b 3 9; have e102 := hp.b 12 0; have ks1 := (hI.cell (p := ⟨s, 1, none⟩) hsW).trans s1; refine ⟨hp.wt e93, ?_⟩; clear hp; go_simp; rfl
          apply Free.sv; intro a w1 hI hp
          · have e93 := hp.b 3 10; have e98 := hp.b 8 5; have e103 := hp.b 13 0; refine ⟨hp.wt e93, ?_⟩; clear hp; go_simp; rfl
          apply Free.sv; intro a w1 hI hp
          · have e93 := hp.b 3 11; have e104 := hp.b 14 0; refine ⟨hp.wt e93, ?_⟩; clear hp; go_simp; rfl
          apply Free.sv; intro a w1 hI hp
          · have e105 := hp.b 15 0; have e3 := hp.sl 3; simp at e3; refine ⟨hp.wt e105, ?_⟩; clear hp; go_simp; rfl
          apply Free.sv; intro a w1 hI hp
          · have e105 := hp.b 15 1; have e106 := hp.b 16 0; refine ⟨hp.wt e105, ?_⟩; clear hp; go_simp; rfl
          apply Free.sv; intro a w1 hI hp
          · have e105 := hp.b 15 2; have e107 := hp.b 17 0; have kv5 := (hI.cell (p := ⟨w.heap.size, 5, none⟩) hvW).trans v5; refine ⟨hp.wt e105, ?_⟩; clear hp; go_simp; rfl
          apply Free.sv; intro a w1 hI hp
          · have e105 := hp.b 15 3; have e108 := hp.b 18 0; refine ⟨hp.wt e105, ?_⟩; clear hp; go_simp; rfl
          apply Free.sv; intro a w1 hI hp
          · have e105 := hp.b 15 4; have e0 := hp.sl 0; simp at e0; refine ⟨hp.wt e105, ?_⟩; clear hp; go_simp; rfl
          apply Free.sv; intro a w1 hI hp
          · have e105 := hp.b 15 5; have e110 := hp.b 20 0; refine ⟨hp.wt e105, ?_⟩; clear hp; go_simp; rfl
          apply Free.sv; intro a w1 hI hp
          · have e105 := hp.b 15 6; have e111 := hp.b 21 0; refine ⟨hp.wt e105, ?_⟩; clear hp; go_simp; rfl
          apply Free.sv; intro a w1 hI hp
          · have e105 := hp.b 15 7; have e112 := hp.b 22 0; refine ⟨hp.wt e105, ?_⟩; clear hp; go_simp; rfl
          apply Free.sv; intro a w1 hI hp
          · have e105 := hp.b 15 8; have e113 := hp.b 23 0; have ks2 := (hI.cell (p := ⟨s, 2, none⟩) hsW).trans s2; refine ⟨hp.wt e105, ?_⟩; clear hp; go_simp; rfl
          apply Free.sv; intro a w1 hI hp
          · have e105 := hp.b 15 9; have e0 := hp.sl 0; simp at e0; refine ⟨hp.wt e105, ?_⟩; clear hp; go_simp; rfl
          apply Free.sv; intro a w1 hI hp
          · have e105 := hp.b 15 10; have e115 := hp.b 25 0; refine ⟨hp.wt e105, ?_⟩; clear hp; go_simp; rfl
          apply Free.sv; intro a w1 hI hp
          · have e105 := hp.b 15 11; have e116 := hp.b 26 0; refine ⟨hp.wt e105, ?_⟩; clear hp; go_simp; rfl
          apply Free.sv; intro a w1 hI hp
          · have e105 := hp.b 15 12; have e117 := hp.b 27 0; have ks71 := (hI.cell (p := ⟨s, 71, none⟩) hsW).trans s71; refine ⟨hp.wt e105, ?_⟩; clear hp; go_simp; rfl
          apply Free.sv; intro a w1 hI hp
          · have e105 := hp.b 15 13; have e114 := hp.b 24 4; have e118 := hp.b 28 0; refine ⟨hp.wt e105, ?_⟩; clear hp; go_simp; rfl
          apply Free.sv; intro a w1 hI hp
          · have e105 := hp.b 15 14; have e109 := hp.b 19 10; have e119 := hp.b 29 0; refine ⟨hp.wt e105, ?_⟩; clear hp; go_simp; rfl
          apply Free.sv; intro a w1 hI hp
          · have e93 := hp.b 3 27; have e105 := hp.b 15 15; have e120 := hp.b 30 0; refine ⟨hp.wt e93, ?_⟩; clear hp; go_simp; rfl
          apply Free.sv; intro a w1 hI hp
          · have e93 := hp.b 3 28; have e121 := hp.b 31 0; refine ⟨Free.wn, ?_⟩; clear hp; go_simp; rfl
          apply Free.sv; intro a w1 hI hp
          · have e122 := hp.b 32 0; refine ⟨Free.wn, ?_⟩; clear hp; go_simp; rfl
          refine Free.Seq.done (by simp) (fun wz hIz => ?_); simp only [List.reverse_cons, List.reverse_nil, List.nil_append, List.cons_append, Free.All, Free.eqF, forall_eq]; have HIZ := Lib.hid hIz; clear hIz; simp only [Free.putL, Act.put, List.setIfInBounds_toArray, List.set_cons_zero, List.set_cons_succ]
          dsimp only [Exit.then]
          have z0 := (HIZ.out.cell (p := ⟨w.heap.size, 0, none⟩) hvW).trans v0
          go_wp2_with fail
          go_ret
          exact ⟨by rw [HR5.out]; rfl, HWW.out.trans (HIZ.out.mono (by omega))⟩
  · have hRX : R = X := by rw [HR.out, mayE, if_pos (by rw [← HX.out]; exact hc), HX.out]
    have HRX := Lib.hid hRX; clear hRX
    go_wp2_with fail
    go_ret
    exact ⟨by rw [HRX.out]; rfl, HB1.out⟩
end Go.Proofs.Ytcnlgcmooegfkaa
