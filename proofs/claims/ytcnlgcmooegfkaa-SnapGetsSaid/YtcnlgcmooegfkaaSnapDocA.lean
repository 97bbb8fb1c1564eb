/-
  THE DOCUMENT's TESTS OF A STATE: numbers, what was used, which messages, how many bytes.
  THE DOCUMENT's TESTS OF A STATE: the counters.
  THE DOCUMENT's TESTS OF A STATE: the marks.
  THE DOCUMENT's BYTES OF A STATE: numbers behind bytes.
-/
import Derived.Test.YtcnlgcmooegfkaaSnapFrom
import Derived.Test.YtcnlgcmooegfkaaSnapPut
namespace Go.Proofs.Ytcnlgcmooegfkaa
open Go.RowKit Mg Sn

theorem rnumber_any (n m : Int) (w : World) : Calls Try.prog 71 #[.int .i64 n, .int .i64 m] w fun e w' => e = .returned (.bool (decide (0 ≤ n ∧ n ≤ m))) ∧ w = w' := by
  by_cases h1 : 0 ≤ n
  · by_cases h2 : n ≤ m
    · have e : decide (0 ≤ n ∧ n ≤ m) = true := by simp [h1, h2]
      rw [e]
      go_enter Try.func71, Try.ntmps71
      go_wp2
      go_ret
      exact ⟨rfl, rfl⟩
    · have e : decide (0 ≤ n ∧ n ≤ m) = false := by simp [h2]
      rw [e]
      go_enter Try.func71, Try.ntmps71
      go_wp2
      go_ret
      exact ⟨rfl, rfl⟩
  · have e : decide (0 ≤ n ∧ n ≤ m) = false := by simp [h1]
    rw [e]
    go_enter Try.func71, Try.ntmps71
    go_wp2
    go_ret
    exact ⟨rfl, rfl⟩

/-- the document's store, of used counters and of messages alone -/
def rst (u l : Value) : Value := .agg #[.int .i64 0, .int .i64 0, .int .i64 0, .int .i64 0, .int .i64 0, u, l, .int .i64 0, .slice none 0 0]

set_option maxRecDepth 100000 in
set_option maxHeartbeats 2000000 in
theorem rlast_any (nx : List Nx) (A : Option Addr) (n c B : Nat) (L : Value) (d : Int) (w : World) (hR : RdE ENx 2 w B A n c nx) :
    Calls Try.prog 74 #[rst (.slice A n c) L, .int .i64 d] w fun e w' => e = .returned (.int .i64 (lastOf nx d)) ∧ Below w.heap.size w w' := by
  obtain ⟨R, hRR⟩ : ∃ R, R = lastOf nx d := ⟨_, rfl⟩; rw [← hRR]; have H0 : Hid (R = lastOf (nx.drop 0) d) := by show R = _; rw [hRR, List.drop_zero]
  have HR := Lib.hid hR; have HL := Lib.hid hR.len; have hbig := hR.big; clear hR hRR; unfold rst
  go_enter Try.func74, Try.ntmps74
  go_wp2_with fail
  obtain ⟨W, hW⟩ : ∃ W, W = w.alloc (.cells #[.int .i64 0, .int .i64 0, .int .i64 0, .int .i64 0, .int .i64 0, .slice A n c, L, .int .i64 0, .slice none 0 0] 109) := ⟨_, rfl⟩; rw [← hW]; have hz : w.heap.size < W.heap.size := by rw [hW]; simp
  have a5 : W.cell? ⟨w.heap.size, 5, none⟩ = some (.slice A n c) := by rw [hW]; exact World.cell?_alloc_mark w _ _ _ 5
  have HB : Hid (Below w.heap.size w W) := by show Below _ _ _; rw [hW]; exact (Below.refl _ _).alloc (Nat.le_refl _) _
  clear hW
  go_loopw [5] (fun i wr => ∃ k : Nat, i = .int .i64 k ∧ k ≤ n ∧ Hid (R = lastOf (nx.drop k) d ∧ Below W.heap.size W wr)) (fun i _ => n - (intOf i).toNat)
  case atStart => exact ⟨0, rfl, Nat.zero_le _, H0.out, Below.refl _ _⟩
  case round =>
    obtain ⟨k, rfl, hk, hq, hb⟩ := hrel; have HQ := Lib.hid hq; have HBW := Lib.hid hb; have a5 := (hb.cell (p := ⟨w.heap.size, 5, none⟩) hz).trans a5; have HB := Lib.hid (HB.out.trans (hb.mono (by omega))); clear hq hb
    by_cases hlt : k < n
    · obtain ⟨b, off, x, cs, rfl, hBb, hbl, hx, hcs, hlen, hcell⟩ := (HR.out.below keeps_nx HB.out).at' hlt; unfold ENx at hcs; subst hcs; have c0 := hcell 0 _ rfl; have c1 := hcell 1 _ rfl; rw [Nat.add_zero] at c0; have hq2 : R = if x.d = d then x.c else lastOf (nx.drop (k + 1)) d := by
        obtain ⟨h9, rfl⟩ := List.getElem?_eq_some_iff.1 hx; rw [HQ.out, List.drop_eq_getElem_cons h9, lastOf]
      obtain ⟨xd, xc⟩ := x; simp only at c0 c1 hq2; have HQ2 := Lib.hid hq2; have hkb : k < 281474976710656 := by omega
      clear hcell hlen hx hq2
      by_cases hd : xd = d
      · have t0 : (xd == d) = true := by simpa using hd
        have HR2 : Hid (R = xc) := by show R = xc; rw [HQ2.out, if_pos hd]
        clear hd HQ2
        go_wp2_with fail
        go_ret
        exact ⟨ret_int (by rw [HR2.out]), HB.out⟩
      · have t0 : (xd == d) = false := by simpa using hd
        have HR2 : Hid (R = lastOf (nx.drop (k + 1)) d) := by show R = _; rw [HQ2.out, if_neg hd]
        clear hd HQ2
        go_wp2_with fail
        exact ⟨⟨k + 1, by simp, by omega, HR2.out, HBW.out⟩, by simp only [intOf]; omega⟩
    · have hkn : k = n := by omega
      subst hkn; have HR2 : Hid (R = 0) := by show R = _; rw [HQ.out, List.drop_of_length_le (by rw [HL.out]; exact Nat.le_refl _)]; rfl
      go_wp2_with fail
      go_ret
      exact ⟨ret_int (by rw [HR2.out]), HB.out⟩

set_option maxRecDepth 100000 in
set_option maxHeartbeats 2000000 in
theorem rhas_any (l : List Ms) (A : Option Addr) (n c B : Nat) (i : Mid) (w : World) (hR : RdE EMs 5 w B A n c l) :
    Calls Try.prog 73 #[.slice A n c, idv i] w fun e w' => e = .returned (.bool (decide (i ∈ l.map (·.i)))) ∧ Below w.heap.size w w' := by
  obtain ⟨R, hRR⟩ : ∃ R, R = decide (i ∈ l.map (·.i)) := ⟨_, rfl⟩; rw [← hRR]; have H0 : Hid (R = decide (i ∈ (l.drop 0).map (·.i))) := by show R = _; rw [hRR, List.drop_zero]
  have HR := Lib.hid hR; have HL := Lib.hid hR.len; have hbig := hR.big; clear hR hRR; obtain ⟨io, id, ie, ic⟩ := i; unfold idv; simp only
  go_enter Try.func73, Try.ntmps73
  go_wp2_with fail
  obtain ⟨W, hW⟩ : ∃ W, W = w.alloc (.cells #[.int .i64 io, .int .i64 id, .int .i64 ie, .int .i64 ic] 52) := ⟨_, rfl⟩; rw [← hW]; have hz : w.heap.size < W.heap.size := by rw [hW]; simp
  have i0 : W.cell? ⟨w.heap.size, 0, none⟩ = some (.int .i64 io) := by rw [hW]; exact World.cell?_alloc_mark w _ _ _ 0
  have i1 : W.cell? ⟨w.heap.size, 1, none⟩ = some (.int .i64 id) := by rw [hW]; exact World.cell?_alloc_mark w _ _ _ 1
  have i2 : W.cell? ⟨w.heap.size, 2, none⟩ = some (.int .i64 ie) := by rw [hW]; exact World.cell?_alloc_mark w _ _ _ 2
  have i3 : W.cell? ⟨w.heap.size, 3, none⟩ = some (.int .i64 ic) := by rw [hW]; exact World.cell?_alloc_mark w _ _ _ 3
  have HB : Hid (Below w.heap.size w W) := by show Below _ _ _; rw [hW]; exact (Below.refl _ _).alloc (Nat.le_refl _) _
  clear hW
  go_loopw [5] (fun j wr => ∃ k : Nat, j = .int .i64 k ∧ k ≤ n ∧ Hid (R = decide ((⟨io, id, ie, ic⟩ : Mid) ∈ (l.drop k).map (·.i)) ∧ Below W.heap.size W wr)) (fun j _ => n - (intOf j).toNat)
  case atStart => exact ⟨0, rfl, Nat.zero_le _, H0.out, Below.refl _ _⟩
  case round =>
    obtain ⟨k, rfl, hk, hq, hb⟩ := hrel; have HQ := Lib.hid hq; have HBr := Lib.hid (HB.out.trans (hb.mono (by omega))); have HBW := Lib.hid hb; have i0 := (hb.cell (p := ⟨w.heap.size, 0, none⟩) hz).trans i0; have i1 := (hb.cell (p := ⟨w.heap.size, 1, none⟩) hz).trans i1; have i2 := (hb.cell (p := ⟨w.heap.size, 2, none⟩) hz).trans i2; have i3 := (hb.cell (p := ⟨w.heap.size, 3, none⟩) hz).trans i3; have hwr : w.heap.size < wr.heap.size := by have := hb.size; omega
    clear hq hb
    by_cases hlt : k < n
    · obtain ⟨b, off, x, cs, rfl, hBb, hbl, hx, hcs, hlen, hcell⟩ := (HR.out.below keeps_ms HBr.out).at' hlt; obtain ⟨Ax, cx, rfl, hrx⟩ := hcs; have c0 := hcell 0 _ rfl; have c1 := hcell 1 _ rfl; have c2 := hcell 2 _ rfl; have c3 := hcell 3 _ rfl; rw [Nat.add_zero] at c0; have hq2 : R = (decide ((⟨io, id, ie, ic⟩ : Mid) = x.i) || decide ((⟨io, id, ie, ic⟩ : Mid) ∈ (l.drop (k + 1)).map (·.i))) := by
        obtain ⟨h9, rfl⟩ := List.getElem?_eq_some_iff.1 hx; rw [HQ.out, List.drop_eq_getElem_cons h9, List.map_cons, Bool.eq_iff_iff]; simp
      obtain ⟨⟨xo, xd, xe, xc⟩, xl⟩ := x; simp only at c0 c1 c2 c3 hq2; have HQ2 := Lib.hid hq2; have hkb : k < 281474976710656 := by omega
      clear hcell hlen hx hq2 hrx
      by_cases he : (⟨io, id, ie, ic⟩ : Mid) = ⟨xo, xd, xe, xc⟩
      · injection he with e1 e2 e3 e4
        subst e1 e2 e3 e4; have HR2 : Hid (R = true) := by show R = true; rw [HQ2.out]; simp
        clear HQ2
        go_wp2_with fail
        refine Free.wp_seq (I := fun w' => Below wr.heap.size wr w') (Gr := fun w1 w2 => Below w1.heap.size w1 w2) (by kernel_rfl) (by kernel_rfl) (Below.refl _ _).drew ?_; apply Free.sv; intro a w1 hI hp
        · have e0 := hp.sl 0; simp at e0; refine ⟨Free.wn, ?_⟩; clear hp; go_simp; rfl
        apply Free.sv; intro a w1 hI hp
        · have e5 := hp.sl 5; simp at e5; refine ⟨Free.wn, ?_⟩; clear hp; go_simp; rfl
        apply Free.sv; intro a w1 hI hp
        · have e12 := hp.b 0 1; have e13 := hp.b 1 0; refine ⟨Free.wn, ?_⟩; clear hp; go_simp; rfl
        apply Free.sv; intro a w1 hI hp
        · have e14 := hp.b 2 0; refine ⟨Free.wn, ?_⟩; clear hp; go_simp; rfl
        apply Free.sv; intro a w1 hI hp
        · have e15 := hp.b 3 0; have kc0 := (hI.cell (p := ⟨b, off + k * 5, none⟩) hbl).trans c0; have kc1 := (hI.cell (p := ⟨b, off + k * 5 + 1, none⟩) hbl).trans c1; have kc2 := (hI.cell (p := ⟨b, off + k * 5 + 2, none⟩) hbl).trans c2; have kc3 := (hI.cell (p := ⟨b, off + k * 5 + 3, none⟩) hbl).trans c3; refine ⟨Free.wn, ?_⟩; clear hp; go_simp; rfl
        apply Free.sv; intro a w1 hI hp
        · have e3 := hp.sl 3; simp at e3; have ki0 := (hI.cell (p := ⟨w.heap.size, 0, none⟩) hwr).trans i0; have ki1 := (hI.cell (p := ⟨w.heap.size, 1, none⟩) hwr).trans i1; have ki2 := (hI.cell (p := ⟨w.heap.size, 2, none⟩) hwr).trans i2; have ki3 := (hI.cell (p := ⟨w.heap.size, 3, none⟩) hwr).trans i3; refine ⟨Free.wn, ?_⟩; clear hp; go_simp; rfl
        apply Free.sv; intro a w1 hI hp
        · have e16 := hp.b 4 1; have e17 := hp.b 5 0; refine ⟨Free.wn, ?_⟩; clear hp; go_simp; rfl
        refine Free.Seq.done (by simp) (fun wz hIz => ?_); simp only [List.reverse_cons, List.reverse_nil, List.nil_append, List.cons_append, Free.All, Free.eqF, forall_eq]
        skip
        simp only [Free.putL, Act.put, List.setIfInBounds_toArray, List.set_cons_zero, List.set_cons_succ]; have HBZ := Lib.hid (HBr.out.trans (hIz.mono (by omega))); clear hIz
        dsimp only [Exit.inBlock, Exit.then]
        go_wp2_with fail
        go_ret
        exact ⟨ret_bool (by rw [HR2.out]), HBZ.out⟩
      · have HR2 : Hid (R = decide ((⟨io, id, ie, ic⟩ : Mid) ∈ (l.drop (k + 1)).map (·.i))) := by show R = _; rw [HQ2.out, decide_eq_false he, Bool.false_or]
        clear HQ2
        by_cases e1 : xo = io
        · by_cases e2 : xd = id
          · by_cases e3 : xe = ie
            · have e4 : ¬ xc = ic := fun e4 => he (by rw [e1, e2, e3, e4])
              subst e1 e2 e3; have t0 : (xc == ic) = false := by simpa using e4
              clear he
              go_wp2_with fail
              refine Free.wp_seq (I := fun w' => Below wr.heap.size wr w') (Gr := fun w1 w2 => Below w1.heap.size w1 w2) (by kernel_rfl) (by kernel_rfl) (Below.refl _ _).drew ?_; apply Free.sv; intro a w1 hI hp
              · have e0 := hp.sl 0; simp at e0; refine ⟨Free.wn, ?_⟩; clear hp; go_simp; rfl
              apply Free.sv; intro a w1 hI hp
              · have e5 := hp.sl 5; simp at e5; refine ⟨Free.wn, ?_⟩; clear hp; go_simp; rfl
              apply Free.sv; intro a w1 hI hp
              · have e12 := hp.b 0 1; have e13 := hp.b 1 0; refine ⟨Free.wn, ?_⟩; clear hp; go_simp; rfl
              apply Free.sv; intro a w1 hI hp
              · have e14 := hp.b 2 0; refine ⟨Free.wn, ?_⟩; clear hp; go_simp; rfl
              apply Free.sv; intro a w1 hI hp
              · have e15 := hp.b 3 0; have kc0 := (hI.cell (p := ⟨b, off + k * 5, none⟩) hbl).trans c0; have kc1 := (hI.cell (p := ⟨b, off + k * 5 + 1, none⟩) hbl).trans c1; have kc2 := (hI.cell (p := ⟨b, off + k * 5 + 2, none⟩) hbl).trans c2; have kc3 := (hI.cell (p := ⟨b, off + k * 5 + 3, none⟩) hbl).trans c3; refine ⟨Free.wn, ?_⟩; clear hp; go_simp; rfl
              apply Free.sv; intro a w1 hI hp
              · have e3 := hp.sl 3; simp at e3; have ki0 := (hI.cell (p := ⟨w.heap.size, 0, none⟩) hwr).trans i0; have ki1 := (hI.cell (p := ⟨w.heap.size, 1, none⟩) hwr).trans i1; have ki2 := (hI.cell (p := ⟨w.heap.size, 2, none⟩) hwr).trans i2; have ki3 := (hI.cell (p := ⟨w.heap.size, 3, none⟩) hwr).trans i3; refine ⟨Free.wn, ?_⟩; clear hp; go_simp; rfl
              apply Free.sv; intro a w1 hI hp
              · have e16 := hp.b 4 1; have e17 := hp.b 5 0; refine ⟨Free.wn, ?_⟩; clear hp; go_simp; rfl
              refine Free.Seq.done (by simp) (fun wz hIz => ?_); simp only [List.reverse_cons, List.reverse_nil, List.nil_append, List.cons_append, Free.All, Free.eqF, forall_eq]
              skip
              simp only [Free.putL, Act.put, List.setIfInBounds_toArray, List.set_cons_zero, List.set_cons_succ]; have HBZ := Lib.hid (HBW.out.trans (hIz.mono HBW.out.size)); clear hIz
              dsimp only [Exit.inBlock, Exit.then]
              go_wp2_with fail
              exact ⟨⟨k + 1, by simp, by omega, HR2.out, HBZ.out⟩, by simp only [intOf]; omega⟩
            · subst e1 e2; have t0 : (xe == ie) = false := by simpa using e3
              clear he
              go_wp2_with fail
              refine Free.wp_seq (I := fun w' => Below wr.heap.size wr w') (Gr := fun w1 w2 => Below w1.heap.size w1 w2) (by kernel_rfl) (by kernel_rfl) (Below.refl _ _).drew ?_; apply Free.sv; intro a w1 hI hp
              · have e0 := hp.sl 0; simp at e0; refine ⟨Free.wn, ?_⟩; clear hp; go_simp; rfl
              apply Free.sv; intro a w1 hI hp
              · have e5 := hp.sl 5; simp at e5; refine ⟨Free.wn, ?_⟩; clear hp; go_simp; rfl
              apply Free.sv; intro a w1 hI hp
              · have e12 := hp.b 0 1; have e13 := hp.b 1 0; refine ⟨Free.wn, ?_⟩; clear hp; go_simp; rfl
              apply Free.sv; intro a w1 hI hp
              · have e14 := hp.b 2 0; refine ⟨Free.wn, ?_⟩; clear hp; go_simp; rfl
              apply Free.sv; intro a w1 hI hp
              · have e15 := hp.b 3 0; have kc0 := (hI.cell (p := ⟨b, off + k * 5, none⟩) hbl).trans c0; have kc1 := (hI.cell (p := ⟨b, off + k * 5 + 1, none⟩) hbl).trans c1; have kc2 := (hI.cell (p := ⟨b, off + k * 5 + 2, none⟩) hbl).trans c2; have kc3 := (hI.cell (p := ⟨b, off + k * 5 + 3, none⟩) hbl).trans c3; refine ⟨Free.wn, ?_⟩; clear hp; go_simp; rfl
              apply Free.sv; intro a w1 hI hp
              · have e3 := hp.sl 3; simp at e3; have ki0 := (hI.cell (p := ⟨w.heap.size, 0, none⟩) hwr).trans i0; have ki1 := (hI.cell (p := ⟨w.heap.size, 1, none⟩) hwr).trans i1; have ki2 := (hI.cell (p := ⟨w.heap.size, 2, none⟩) hwr).trans i2; have ki3 := (hI.cell (p := ⟨w.heap.size, 3, none⟩) hwr).trans i3; refine ⟨Free.wn, ?_⟩; clear hp; go_simp; rfl
              apply Free.sv; intro a w1 hI hp
              · have e16 := hp.b 4 1; have e17 := hp.b 5 0; refine ⟨Free.wn, ?_⟩; clear hp; go_simp; rfl
              refine Free.Seq.done (by simp) (fun wz hIz => ?_); simp only [List.reverse_cons, List.reverse_nil, List.nil_append, List.cons_append, Free.All, Free.eqF, forall_eq]
              skip
              simp only [Free.putL, Act.put, List.setIfInBounds_toArray, List.set_cons_zero, List.set_cons_succ]; have HBZ := Lib.hid (HBW.out.trans (hIz.mono HBW.out.size)); clear hIz
              dsimp only [Exit.inBlock, Exit.then]
              go_wp2_with fail
              exact ⟨⟨k + 1, by simp, by omega, HR2.out, HBZ.out⟩, by simp only [intOf]; omega⟩
          · subst e1; have t0 : (xd == id) = false := by simpa using e2
            clear he
            go_wp2_with fail
            refine Free.wp_seq (I := fun w' => Below wr.heap.size wr w') (Gr := fun w1 w2 => Below w1.heap.size w1 w2) (by kernel_rfl) (by kernel_rfl) (Below.refl _ _).drew ?_; apply Free.sv; intro a w1 hI hp
            · have e0 := hp.sl 0; simp at e0; refine ⟨Free.wn, ?_⟩; clear hp; go_simp; rfl
            apply Free.sv; intro a w1 hI hp
            · have e5 := hp.sl 5; simp at e5; refine ⟨Free.wn, ?_⟩; clear hp; go_simp; rfl
            apply Free.sv; intro a w1 hI hp
            · have e12 := hp.b 0 1; have e13 := hp.b 1 0; refine ⟨Free.wn, ?_⟩; clear hp; go_simp; rfl
            apply Free.sv; intro a w1 hI hp
            · have e14 := hp.b 2 0; refine ⟨Free.wn, ?_⟩; clear hp; go_simp; rfl
            apply Free.sv; intro a w1 hI hp
            · have e15 := hp.b 3 0; have kc0 := (hI.cell (p := ⟨b, off + k * 5, none⟩) hbl).trans c0; have kc1 := (hI.cell (p := ⟨b, off + k * 5 + 1, none⟩) hbl).trans c1; have kc2 := (hI.cell (p := ⟨b, off + k * 5 + 2, none⟩) hbl).trans c2; have kc3 := (hI.cell (p := ⟨b, off + k * 5 + 3, none⟩) hbl).trans c3; refine ⟨Free.wn, ?_⟩; clear hp; go_simp; rfl
            apply Free.sv; intro a w1 hI hp
            · have e3 := hp.sl 3; simp at e3; have ki0 := (hI.cell (p := ⟨w.heap.size, 0, none⟩) hwr).trans i0; have ki1 := (hI.cell (p := ⟨w.heap.size, 1, none⟩) hwr).trans i1; have ki2 := (hI.cell (p := ⟨w.heap.size, 2, none⟩) hwr).trans i2; have ki3 := (hI.cell (p := ⟨w.heap.size, 3, none⟩) hwr).trans i3; refine ⟨Free.wn, ?_⟩; clear hp; go_simp; rfl
            apply Free.sv; intro a w1 hI hp
            · have e16 := hp.b 4 1; have e17 := hp.b 5 0; refine ⟨Free.wn, ?_⟩; clear hp; go_simp; rfl
            refine Free.Seq.done (by simp) (fun wz hIz => ?_); simp only [List.reverse_cons, List.reverse_nil, List.nil_append, List.cons_append, Free.All, Free.eqF, forall_eq]
            skip
            simp only [Free.putL, Act.put, List.setIfInBounds_toArray, List.set_cons_zero, List.set_cons_succ]; have HBZ := Lib.hid (HBW.out.trans (hIz.mono HBW.out.size)); clear hIz
            dsimp only [Exit.inBlock, Exit.then]
            go_wp2_with fail
            exact ⟨⟨k + 1, by simp, by omega, HR2.out, HBZ.out⟩, by simp only [intOf]; omega⟩
        · have t0 : (xo == io) = false := by simpa using e1
          clear he
          go_wp2_with fail
          refine Free.wp_seq (I := fun w' => Below wr.heap.size wr w') (Gr := fun w1 w2 => Below w1.heap.size w1 w2) (by kernel_rfl) (by kernel_rfl) (Below.refl _ _).drew ?_; apply Free.sv; intro a w1 hI hp
          · have e0 := hp.sl 0; simp at e0; refine ⟨Free.wn, ?_⟩; clear hp; go_simp; rfl
          apply Free.sv; intro a w1 hI hp
          · have e5 := hp.sl 5; simp at e5; refine ⟨Free.wn, ?_⟩; clear hp; go_simp; rfl
          apply Free.sv; intro a w1 hI hp
          · have e12 := hp.b 0 1; have e13 := hp.b 1 0; refine ⟨Free.wn, ?_⟩; clear hp; go_simp; rfl
          apply Free.sv; intro a w1 hI hp
          · have e14 := hp.b 2 0; refine ⟨Free.wn, ?_⟩; clear hp; go_simp; rfl
          apply Free.sv; intro a w1 hI hp
          · have e15 := hp.b 3 0; have kc0 := (hI.cell (p := ⟨b, off + k * 5, none⟩) hbl).trans c0; have kc1 := (hI.cell (p := ⟨b, off + k * 5 + 1, none⟩) hbl).trans c1; have kc2 := (hI.cell (p := ⟨b, off + k * 5 + 2, none⟩) hbl).trans c2; have kc3 := (hI.cell (p := ⟨b, off + k * 5 + 3, none⟩) hbl).trans c3; refine ⟨Free.wn, ?_⟩; clear hp; go_simp; rfl
          apply Free.sv; intro a w1 hI hp
          · have e3 := hp.sl 3; simp at e3; have ki0 := (hI.cell (p := ⟨w.heap.size, 0, none⟩) hwr).trans i0; have ki1 := (hI.cell (p := ⟨w.heap.size, 1, none⟩) hwr).trans i1; have ki2 := (hI.cell (p := ⟨w.heap.size, 2, none⟩) hwr).trans i2; have ki3 := (hI.cell (p := ⟨w.heap.size, 3, none⟩) hwr).trans i3; refine ⟨Free.wn, ?_⟩; clear hp; go_simp; rfl
          apply Free.sv; intro a w1 hI hp
          · have e16 := hp.b 4 1; have e17 := hp.b 5 0; refine ⟨Free.wn, ?_⟩; clear hp; go_simp; rfl
          refine Free.Seq.done (by simp) (fun wz hIz => ?_); simp only [List.reverse_cons, List.reverse_nil, List.nil_append, List.cons_append, Free.All, Free.eqF, forall_eq]
          skip
          simp only [Free.putL, Act.put, List.setIfInBounds_toArray, List.set_cons_zero, List.set_cons_succ]; have HBZ := Lib.hid (HBW.out.trans (hIz.mono HBW.out.size)); clear hIz
          dsimp only [Exit.inBlock, Exit.then]
          go_wp2_with fail
          exact ⟨⟨k + 1, by simp, by omega, HR2.out, HBZ.out⟩, by simp only [intOf]; omega⟩
    · have hkn : k = n := by omega
      subst hkn; have HR2 : Hid (R = false) := by show R = _; rw [HQ.out, List.drop_of_length_le (by rw [HL.out]; exact Nat.le_refl _)]; simp
      go_wp2_with fail
      go_ret
      exact ⟨ret_bool (by rw [HR2.out]), HBr.out⟩
theorem bytes_bound {l : List Ms} (h : ∀ m ∈ l, m.l.length ≤ 48) : Sn.bytes l ≤ 48 * l.length := by
  induction l with
  | nil => simp [Sn.bytes]
  | cons x r ih =>
    have e : Sn.bytes (x :: r) = x.l.length + Sn.bytes r := by simp [Sn.bytes]
    have h1 := h x (List.mem_cons_self ..); have h2 := ih fun m hm => h m (List.mem_cons_of_mem _ hm)
    rw [e, List.length_cons]; omega
set_option maxRecDepth 100000 in
set_option maxHeartbeats 2000000 in
theorem rbytes_any (l : List Ms) (A : Option Addr) (n c B : Nat) (U : Value) (w : World) (hR : RdE EMs 5 w B A n c l) (h48 : ∀ m ∈ l, m.l.length ≤ 48) :
    Calls Try.prog 55 #[rst U (.slice A n c)] w fun e w' => e = .returned (.int .i64 (Sn.bytes l)) ∧ Below w.heap.size w w' := by
  have HR := Lib.hid hR; have HL := Lib.hid hR.len; have H48 := Lib.hid h48; have hbig := hR.big; clear hR h48; unfold rst
  go_enter Try.func55, Try.ntmps55
  go_wp2_with fail
  obtain ⟨W, hW⟩ : ∃ W, W = w.alloc (.cells #[.int .i64 0, .int .i64 0, .int .i64 0, .int .i64 0, .int .i64 0, U, .slice A n c, .int .i64 0, .slice none 0 0] 109) := ⟨_, rfl⟩; rw [← hW]; have hz : w.heap.size < W.heap.size := by rw [hW]; simp
  have a6 : W.cell? ⟨w.heap.size, 6, none⟩ = some (.slice A n c) := by rw [hW]; exact World.cell?_alloc_mark w _ _ _ 6
  have HB : Hid (Below w.heap.size w W) := by show Below _ _ _; rw [hW]; exact (Below.refl _ _).alloc (Nat.le_refl _) _
  clear hW
  go_loopw [3, 4] (fun z i wr => ∃ k y : Nat, i = .int .i64 k ∧ z = .int .i64 y ∧ k ≤ n ∧ y ≤ 48 * k ∧ Hid (y = Sn.bytes (l.take k) ∧ Below W.heap.size W wr)) (fun _ i _ => n - (intOf i).toNat)
  case atStart => exact ⟨0, 0, rfl, rfl, Nat.zero_le _, Nat.zero_le _, by simp [Sn.bytes], Below.refl _ _⟩
  case round =>
    obtain ⟨k, y, rfl, rfl, hk, hy, hq, hb⟩ := hrel; have HQ := Lib.hid hq; have HBW := Lib.hid hb; have a6 := (hb.cell (p := ⟨w.heap.size, 6, none⟩) hz).trans a6; have HB := Lib.hid (HB.out.trans (hb.mono (by omega))); clear hq hb
    by_cases hlt : k < n
    · obtain ⟨b, off, x, cs, rfl, hBb, hbl, hx, hcs, hlen, hcell⟩ := (HR.out.below keeps_ms HB.out).at' hlt; obtain ⟨Ax, cx, rfl, hrx⟩ := hcs; have c4 := hcell 4 _ rfl; have hx48 := H48.out x (List.mem_of_getElem? hx); have htk : l.take (k + 1) = l.take k ++ [x] := by rw [List.take_add_one, hx]; rfl
      have hs : Sn.bytes (l.take (k + 1)) = y + x.l.length := by
        rw [htk, bytes_append, HQ.out]; simp [Sn.bytes]
      obtain ⟨nx, hnx⟩ : ∃ nx, nx = x.l.length := ⟨_, rfl⟩; rw [← hnx] at c4 hx48 hs; have HS := Lib.hid hs; have hkb : k < 281474976710656 := by omega
      have hadd : IntKind.i64.wrap ((y : Int) + (nx : Int)) = ((y + nx : Nat) : Int) := by rw [IntWalk.i64_in _ (by omega)]; omega
      clear hcell hlen hx hrx htk hs hnx
      go_wp2_with fail
      exact ⟨⟨k + 1, y + nx, by simp, by first | rfl | (congr 1; omega), by omega, by omega, HS.out.symm, HBW.out⟩, by simp only [intOf]; omega⟩
    · have hkn : k = n := by omega
      subst hkn; have hs : y = Sn.bytes l := by rw [HQ.out, List.take_of_length_le (by rw [HL.out]; exact Nat.le_refl _)]
      have HS := Lib.hid hs; clear hs
      go_wp2_with fail
      go_ret
      exact ⟨ret_int (by rw [HS.out]), HB.out⟩

/-- the document's new store: its value, and why there is none -/
def rnewV (self : Int) : Value := if 0 ≤ self ∧ self ≤ 63 then .agg #[.int .i64 self, .int .i64 256, .int .i64 1048576, .int .i64 256, .int .i64 0, .slice none 0 0, .slice none 0 0, .int .i64 256, .slice none 0 0] else rst (.slice none 0 0) (.slice none 0 0)
set_option maxRecDepth 100000 in
set_option maxHeartbeats 2000000 in
theorem rnew_any (self : Int) (w : World) : Calls Try.prog 51 #[.int .i64 self, .agg #[.int .i64 256, .int .i64 1048576, .int .i64 256]] w fun e w' => e = .returned (.tuple #[rnewV self, .int .i64 (if 0 ≤ self ∧ self ≤ 63 then 0 else 1)]) ∧ Below w.heap.size w w' := by
  have HN := Lib.hid (fun (n m : Int) (W : World) => rnumber_any n m W)
  by_cases hs : 0 ≤ self ∧ self ≤ 63
  · unfold rnewV; rw [if_pos hs, if_pos hs]; have h1 := HN.out self 63; rw [decide_eq_true hs] at h1; have H1 := Lib.hid h1; clear h1 hs
    go_enter Try.func51, Try.ntmps51
    go_wp2_with (first | (go_at_call 71; first | ((with_reducible refine (H1.out _).mono ?_); rintro e w' ⟨rfl, rfl⟩) | (refine (HN.out _ _ _).mono ?_; rintro e w' ⟨rfl, rfl⟩)))
    have hg := heap_alloc_new (w.alloc (.cells #[.int .i64 256, .int .i64 1048576, .int .i64 256] 68)) (.cells #[.int .i64 self, .int .i64 256, .int .i64 1048576, .int .i64 256, .int .i64 0, .slice none 0 0, .slice none 0 0, .int .i64 256, .slice none 0 0] 109); rw [World.size_alloc] at hg; refine bodyPost_ret (results_cell2 rfl _ _ (w.heap.size + 1) _ _ _ _ rfl hg Try.underlying109 rfl (by kernel_rfl)) rfl ?_; exact ⟨rfl, ((Below.refl _ _).alloc (Nat.le_refl _) _).alloc (by simp) _⟩
  · unfold rnewV; rw [if_neg hs, if_neg hs]; have h1 := HN.out self 63; rw [decide_eq_false hs] at h1; have H1 := Lib.hid h1; clear h1 hs; unfold rst
    go_enter Try.func51, Try.ntmps51
    go_wp2_with (first | (go_at_call 71; ((with_reducible refine (H1.out _).mono ?_); rintro e w' ⟨rfl, rfl⟩)))
    have hg := heap_alloc_new (w.alloc (.cells #[.int .i64 256, .int .i64 1048576, .int .i64 256] 68)) (.cells #[.int .i64 0, .int .i64 0, .int .i64 0, .int .i64 0, .int .i64 0, .slice none 0 0, .slice none 0 0, .int .i64 0, .slice none 0 0] 109); rw [World.size_alloc] at hg; refine bodyPost_ret (results_cell2 rfl _ _ (w.heap.size + 1) _ _ _ _ rfl hg Try.underlying109 rfl (by kernel_rfl)) rfl ?_; exact ⟨rfl, ((Below.refl _ _).alloc (Nat.le_refl _) _).alloc (by simp) _⟩
end Go.Proofs.Ytcnlgcmooegfkaa
namespace Go.Proofs.Ytcnlgcmooegfkaa
open Go.RowKit Mg Sn

/-- may the counters be, but for the epoch? -/
def nextD (self last : Int) : List Nx → Bool
  | [] => true
  | n :: r => (decide (last < n.d) && decide (0 ≤ n.d ∧ n.d ≤ 63) && decide (n.d ≠ self) && decide (1 ≤ n.c ∧ n.c ≤ 65535)) && nextD self n.d r
theorem nextD_B (self ep : Int) : ∀ (l : List Nx) (last : Int), nextB self ep last l = (nextD self last l && (decide (l.length = 0) || decide (ep ≠ 0)))
  | [], last => by simp [nextB, nextD]
  | n :: r, last => by
    rw [nextB, nextD, nextD_B self ep r n.d]; have e : decide ((n :: r).length = 0) = false := by simp
    rw [e, Bool.false_or]
    cases decide (ep ≠ 0) <;> simp
theorem nextD_drop {self last : Int} {l : List Nx} {k : Nat} {n : Nx} (h : l[k]? = some n) : nextD self last (l.drop k) = ((decide (last < n.d) && decide (0 ≤ n.d ∧ n.d ≤ 63) && decide (n.d ≠ self) && decide (1 ≤ n.c ∧ n.c ≤ 65535)) && nextD self n.d (l.drop (k + 1))) := by
  obtain ⟨hk, rfl⟩ := List.getElem?_eq_some_iff.1 h; rw [List.drop_eq_getElem_cons hk, nextD]
/-- the destination ahead of number k -/
def prevD (l : List Nx) (k : Nat) : Int := if k = 0 then -1 else (l.getD (k - 1) ⟨0, 0⟩).d

set_option maxRecDepth 100000 in
set_option maxHeartbeats 8000000 in
theorem rnexts_any (s : St) (v : Sv) (B : Nat) (w : World) (hR : RdS w B v s) : Calls Try.prog 53 #[stv s v] w fun e w' => e = .returned (.bool (nextOk s)) ∧ Below w.heap.size w w' := by
  obtain ⟨R, hRR⟩ : ∃ R, R = nextOk s := ⟨_, rfl⟩; rw [← hRR]; have HR := Lib.hid hR.nx; have HL := Lib.hid hR.nx.len; have hbig := hR.nx.big; have HN := Lib.hid (fun (n m : Int) (W : World) => rnumber_any n m W); clear hR; obtain ⟨self, ep, nx, hd, sn⟩ := s; obtain ⟨A1, n1, c1, A2, n2, c2, A3, n3, c3⟩ := v; unfold stv; simp only at HR HL hbig ⊢; have H0 : Hid (R = (nextD self (prevD nx 0) (nx.drop 0) && ((decide (nx.length = 0) || decide (ep ≠ 0)) && decide (0 ≤ ep ∧ ep ≤ 65535)))) := by
    show R = _
    rw [hRR, nextOk, nextD_B, List.drop_zero, Bool.and_assoc]; rfl
  clear hRR
  go_enter Try.func53, Try.ntmps53
  go_wp2_with fail
  obtain ⟨W, hW⟩ : ∃ W, W = w.alloc (.cells #[.int .i64 self, .int .i64 ep, .slice A1 n1 c1, .slice A2 n2 c2, .slice A3 n3 c3] 26) := ⟨_, rfl⟩; rw [← hW]; have hz : w.heap.size < W.heap.size := by rw [hW]; simp
  have a0 : W.cell? ⟨w.heap.size, 0, none⟩ = some (.int .i64 self) := by rw [hW]; exact World.cell?_alloc_mark w _ _ _ 0
  have a1 : W.cell? ⟨w.heap.size, 1, none⟩ = some (.int .i64 ep) := by rw [hW]; exact World.cell?_alloc_mark w _ _ _ 1
  have a2 : W.cell? ⟨w.heap.size, 2, none⟩ = some (.slice A1 n1 c1) := by rw [hW]; exact World.cell?_alloc_mark w _ _ _ 2
  have HB : Hid (Below w.heap.size w W) := by show Below _ _ _; rw [hW]; exact (Below.refl _ _).alloc (Nat.le_refl _) _
  clear hW
  go_loopw [3] (fun i wr => ∃ k : Nat, i = .int .i64 k ∧ k ≤ n1 ∧ Hid (R = (nextD self (prevD nx k) (nx.drop k) && ((decide (nx.length = 0) || decide (ep ≠ 0)) && decide (0 ≤ ep ∧ ep ≤ 65535))) ∧ Below W.heap.size W wr)) (fun i _ => n1 - (intOf i).toNat)
  case atStart => exact ⟨0, rfl, Nat.zero_le _, H0.out, Below.refl _ _⟩
  case round =>
    obtain ⟨k, rfl, hk, hq, hb⟩ := hrel; have HQ := Lib.hid hq; have HBW := Lib.hid hb; have hzr := hb.size; have HBr := Lib.hid (HB.out.trans (hb.mono (by omega))); have a0 := (hb.cell (p := ⟨w.heap.size, 0, none⟩) hz).trans a0; have a1 := (hb.cell (p := ⟨w.heap.size, 1, none⟩) hz).trans a1; have a2 := (hb.cell (p := ⟨w.heap.size, 2, none⟩) hz).trans a2; clear hq hb
    by_cases hlt : k < n1
    · obtain ⟨b, off, x, cs, rfl, hBb, hbl, hx, hcs, hlen, hcell⟩ := (HR.out.below keeps_nx HBr.out).at' hlt; unfold ENx at hcs; subst hcs; have c0 := hcell 0 _ rfl; have c1 := hcell 1 _ rfl; rw [Nat.add_zero] at c0; have hpv : 0 < k → ∃ p, prevD nx k = p ∧ wr.cell? ⟨b, off + (k - 1) * 2, none⟩ = some (.int .i64 p) := fun h0 => by
        obtain ⟨b', off', y, cs', hbo, _, _, hy, hcs', _, hcell'⟩ := (HR.out.below keeps_nx HBr.out).at' (show k - 1 < n1 by omega); unfold ENx at hcs'; subst hcs'; injection hbo with hbo
        injection hbo with hb1 hb2
        subst hb1 hb2; have d0 := hcell' 0 _ rfl; rw [Nat.add_zero] at d0; refine ⟨y.d, ?_, d0⟩; rw [prevD, if_neg (by omega), List.getD_eq_getElem?_getD, hy]; rfl
      have hpn : prevD nx (k + 1) = x.d := by
        rw [prevD, if_neg (by omega), Nat.add_sub_cancel, List.getD_eq_getElem?_getD, hx]; rfl
      rw [nextD_drop hx, ← hpn] at HQ; obtain ⟨d, cn⟩ := x; simp only at c0 c1 hpn; simp only at HQ; rw [hpn] at HQ; have HPN := Lib.hid hpn; have hkb : k < 281474976710656 := by omega
      clear hcell hlen hx hpn
      go_wp2_with fail
      obtain ⟨W5, hW5⟩ : ∃ W5, W5 = wr.alloc (.cells #[.int .i64 d, .int .i64 cn] 50) := ⟨_, rfl⟩; rw [← hW5]; have hz5 : wr.heap.size < W5.heap.size := by rw [hW5]; simp
      have i0 : W5.cell? ⟨wr.heap.size, 0, none⟩ = some (.int .i64 d) := by rw [hW5]; exact World.cell?_alloc_mark wr _ _ _ 0
      have i1 : W5.cell? ⟨wr.heap.size, 1, none⟩ = some (.int .i64 cn) := by rw [hW5]; exact World.cell?_alloc_mark wr _ _ _ 1
      have hb5 : Below wr.heap.size wr W5 := by rw [hW5]; exact (Below.refl _ _).alloc (Nat.le_refl _) _
      have a0 := (hb5.cell (p := ⟨w.heap.size, 0, none⟩) (by show w.heap.size < _; omega)).trans a0; have a2 := (hb5.cell (p := ⟨w.heap.size, 2, none⟩) (by show w.heap.size < _; omega)).trans a2; have hbl5 : b < W5.heap.size := by omega
      have hzw : w.heap.size < W5.heap.size := by omega
      have hpv5 : 0 < k → ∃ p, prevD nx k = p ∧ W5.cell? ⟨b, off + (k - 1) * 2, none⟩ = some (.int .i64 p) := fun h0 => by
        obtain ⟨p, e, h⟩ := hpv h0; exact ⟨p, e, (hb5.cell (p := ⟨b, off + (k - 1) * 2, none⟩) hbl).trans h⟩
      have HB5 := Lib.hid hb5; have HPV := Lib.hid hpv5; clear hW5 hb5 c0 c1 a1 hpv hpv5
      by_cases q0 : 0 ≤ d ∧ d ≤ 63
      rotate_left
      · have HR0 : Hid (R = false) := by show R = _; rw [HQ.out, decide_eq_false q0]; simp
        have hN : ∀ W', Calls Try.prog 71 #[.int .i64 d, .int .i64 63] W' fun e w' => e = .returned (.bool false) ∧ W' = w' := fun W' => by have := rnumber_any d 63 W'; rwa [decide_eq_false q0] at this
        refine Free.wp_seq (I := fun w' => Below W5.heap.size W5 w') (Gr := fun w1 w2 => Below w1.heap.size w1 w2) (by kernel_rfl) (by kernel_rfl) (Below.refl _ _).drew ?_; apply Free.sv; intro a w1 hI hp
        · have e4 := hp.sl 4; simp at e4; refine ⟨Free.wn, ?_⟩; clear hp; go_simp; rfl
        apply Free.sv; intro a w1 hI hp
        · have e17 := hp.b 0 0; have ki0 := (hI.cell (p := ⟨wr.heap.size, 0, none⟩) hz5).trans i0; refine ⟨Free.wn, ?_⟩; clear hp; go_simp; rfl
        refine Free.Seq.call (T := Free.eqF (.bool false)) (fun _ _ _ h _ => h) (fun a w1 hI hp => ?_) ?_
        · have e18 := hp.b 1 0; refine ⟨Free.wn, 71, #[.int .i64 d, .int .i64 63], ?_, ?_⟩
          · clear hp; go_simp
          · refine (hN w1).mono ?_; rintro e w' ⟨rfl, rfl⟩; exact ⟨_, rfl, rfl, Below.refl _ _, hI⟩
        apply Free.sv; intro a w1 hI hp
        · have e19 := hp.b 2 0; refine ⟨Free.wn, ?_⟩; clear hp; go_simp; rfl
        apply Free.sv; intro a w1 hI hp
        · have e20 := hp.b 3 0; refine ⟨Free.wn, ?_⟩; clear hp; go_simp; rfl
        refine Free.sp 4 0 ?_; refine Free.sp 4 1 ?_; refine Free.sp 4 2 ?_; refine Free.sp 4 3 ?_; refine Free.sp 4 4 ?_; apply Free.sv; intro a w1 hI hp
        · have e21 := hp.b 4 5; have e26 := hp.b 9 0; refine ⟨Free.wn, ?_⟩; clear hp; go_simp; rfl
        apply Free.sv; intro a w1 hI hp
        · have e27 := hp.b 10 0; refine ⟨Free.wn, ?_⟩; clear hp; go_simp; rfl
        refine Free.sp 11 0 ?_; refine Free.sp 11 1 ?_; refine Free.sp 11 2 ?_; apply Free.sv; intro a w1 hI hp
        · have e28 := hp.b 11 3; have e31 := hp.b 14 0; refine ⟨Free.wn, ?_⟩; clear hp; go_simp; rfl
        apply Free.sv; intro a w1 hI hp
        · have e32 := hp.b 15 0; refine ⟨Free.wn, ?_⟩; clear hp; go_simp; rfl
        refine Free.sp 16 0 ?_; refine Free.sp 16 1 ?_; refine Free.sp 16 2 ?_; apply Free.sv; intro a w1 hI hp
        · have e33 := hp.b 16 3; have e36 := hp.b 19 0; refine ⟨Free.wn, ?_⟩; clear hp; go_simp; rfl
        apply Free.sv; intro a w1 hI hp
        · have e37 := hp.b 20 0; refine ⟨Free.wn, ?_⟩; clear hp; go_simp; rfl
        refine Free.sp 21 0 ?_; refine Free.sp 21 1 ?_; refine Free.sp 21 2 ?_; refine Free.Seq.pass (fun a w1 hI hp => hp.passU rfl rfl rfl (hp.b 24 0)) ?_; refine Free.Seq.pass (fun a w1 hI hp => hp.passU rfl rfl rfl (hp.b 24 1)) ?_; refine Free.Seq.pass (fun a w1 hI hp => hp.passU rfl rfl rfl (hp.b 24 2)) ?_; refine Free.Seq.pass (fun a w1 hI hp => hp.passU rfl rfl rfl (hp.b 24 3)) ?_; refine Free.Seq.pass (fun a w1 hI hp => hp.passU rfl rfl rfl (hp.b 24 4)) ?_; refine Free.Seq.pass (fun a w1 hI hp => hp.passU rfl rfl rfl (hp.b 24 5)) ?_; refine Free.Seq.pass (fun a w1 hI hp => hp.passU rfl rfl rfl (hp.b 24 6)) ?_; refine Free.Seq.pass (fun a w1 hI hp => hp.passU rfl rfl rfl (hp.b 24 7)) ?_; refine Free.Seq.pass (fun a w1 hI hp => hp.passU rfl rfl rfl (hp.b 24 8)) ?_; refine Free.Seq.pass (fun a w1 hI hp => hp.passU rfl rfl rfl (hp.b 24 9)) ?_; refine Free.sp 21 13 ?_; apply Free.sv; intro a w1 hI hp
        · have e38 := hp.b 21 14; have e52 := hp.b 35 0; refine ⟨Free.wn, ?_⟩; clear hp; go_simp; rfl
        refine Free.Seq.done (by simp) (fun wz hIz => ?_); simp only [List.reverse_cons, List.reverse_nil, List.nil_append, List.cons_append, Free.All, Free.eqF, forall_eq]
        skip
        simp only [Free.putL, Act.put, List.setIfInBounds_toArray, List.set_cons_zero, List.set_cons_succ]; have HBZ := Lib.hid (HBr.out.trans ((HB5.out.trans (hIz.mono (by omega))).mono (by omega))); clear hIz
        dsimp only [Exit.inBlock, Exit.then]
        go_wp2_with fail
        go_ret
        exact ⟨ret_bool (by rw [HR0.out]), HBZ.out⟩
      have hN : ∀ W', Calls Try.prog 71 #[.int .i64 d, .int .i64 63] W' fun e w' => e = .returned (.bool true) ∧ W' = w' := fun W' => by have := rnumber_any d 63 W'; rwa [decide_eq_true q0] at this
      by_cases q1 : d = self
      · have HR0 : Hid (R = false) := by show R = _; rw [HQ.out, decide_eq_false (show ¬ d ≠ self from fun h => h q1)]; simp
        have t1 : (d == self) = true := by simpa using q1
        refine Free.wp_seq (I := fun w' => Below W5.heap.size W5 w') (Gr := fun w1 w2 => Below w1.heap.size w1 w2) (by kernel_rfl) (by kernel_rfl) (Below.refl _ _).drew ?_; apply Free.sv; intro a w1 hI hp
        · have e4 := hp.sl 4; simp at e4; refine ⟨Free.wn, ?_⟩; clear hp; go_simp; rfl
        apply Free.sv; intro a w1 hI hp
        · have e17 := hp.b 0 0; have ki0 := (hI.cell (p := ⟨wr.heap.size, 0, none⟩) hz5).trans i0; refine ⟨Free.wn, ?_⟩; clear hp; go_simp; rfl
        refine Free.Seq.call (T := Free.eqF (.bool true)) (fun _ _ _ h _ => h) (fun a w1 hI hp => ?_) ?_
        · have e18 := hp.b 1 0; refine ⟨Free.wn, 71, #[.int .i64 d, .int .i64 63], ?_, ?_⟩
          · clear hp; go_simp
          · refine (hN w1).mono ?_; rintro e w' ⟨rfl, rfl⟩; exact ⟨_, rfl, rfl, Below.refl _ _, hI⟩
        apply Free.sv; intro a w1 hI hp
        · have e19 := hp.b 2 0; refine ⟨Free.wn, ?_⟩; clear hp; go_simp; rfl
        apply Free.sv; intro a w1 hI hp
        · have e20 := hp.b 3 0; refine ⟨Free.wn, ?_⟩; clear hp; go_simp; rfl
        apply Free.sv; intro a w1 hI hp
        · have e21 := hp.b 4 0; have e4 := hp.sl 4; simp at e4; refine ⟨hp.wt e21, ?_⟩; clear hp; go_simp; rfl
        apply Free.sv; intro a w1 hI hp
        · have e21 := hp.b 4 1; have e22 := hp.b 5 0; have ki0 := (hI.cell (p := ⟨wr.heap.size, 0, none⟩) hz5).trans i0; refine ⟨hp.wt e21, ?_⟩; clear hp; go_simp; rfl
        apply Free.sv; intro a w1 hI hp
        · have e21 := hp.b 4 2; have e1 := hp.sl 1; simp at e1; refine ⟨hp.wt e21, ?_⟩; clear hp; go_simp; rfl
        apply Free.sv; intro a w1 hI hp
        · have e21 := hp.b 4 3; have e24 := hp.b 7 0; have ka0 := (hI.cell (p := ⟨w.heap.size, 0, none⟩) hzw).trans a0; refine ⟨hp.wt e21, ?_⟩; clear hp; go_simp; rfl
        apply Free.sv; intro a w1 hI hp
        · have e21 := hp.b 4 4; have e23 := hp.b 6 2; have e25 := hp.b 8 0; refine ⟨hp.wt e21, ?_⟩; clear hp; go_simp; rfl
        apply Free.sv; intro a w1 hI hp
        · have e21 := hp.b 4 5; have e26 := hp.b 9 0; refine ⟨Free.wn, ?_⟩; clear hp; go_simp; rfl
        apply Free.sv; intro a w1 hI hp
        · have e27 := hp.b 10 0; refine ⟨Free.wn, ?_⟩; clear hp; go_simp; rfl
        refine Free.sp 11 0 ?_; refine Free.sp 11 1 ?_; refine Free.sp 11 2 ?_; apply Free.sv; intro a w1 hI hp
        · have e28 := hp.b 11 3; have e31 := hp.b 14 0; refine ⟨Free.wn, ?_⟩; clear hp; go_simp; rfl
        apply Free.sv; intro a w1 hI hp
        · have e32 := hp.b 15 0; refine ⟨Free.wn, ?_⟩; clear hp; go_simp; rfl
        refine Free.sp 16 0 ?_; refine Free.sp 16 1 ?_; refine Free.sp 16 2 ?_; apply Free.sv; intro a w1 hI hp
        · have e33 := hp.b 16 3; have e36 := hp.b 19 0; refine ⟨Free.wn, ?_⟩; clear hp; go_simp; rfl
        apply Free.sv; intro a w1 hI hp
        · have e37 := hp.b 20 0; refine ⟨Free.wn, ?_⟩; clear hp; go_simp; rfl
        refine Free.sp 21 0 ?_; refine Free.sp 21 1 ?_; refine Free.sp 21 2 ?_; refine Free.Seq.pass (fun a w1 hI hp => hp.passU rfl rfl rfl (hp.b 24 0)) ?_; refine Free.Seq.pass (fun a w1 hI hp => hp.passU rfl rfl rfl (hp.b 24 1)) ?_; refine Free.Seq.pass (fun a w1 hI hp => hp.passU rfl rfl rfl (hp.b 24 2)) ?_; refine Free.Seq.pass (fun a w1 hI hp => hp.passU rfl rfl rfl (hp.b 24 3)) ?_; refine Free.Seq.pass (fun a w1 hI hp => hp.passU rfl rfl rfl (hp.b 24 4)) ?_; refine Free.Seq.pass (fun a w1 hI hp => hp.passU rfl rfl rfl (hp.b 24 5)) ?_; refine Free.Seq.pass (fun a w1 hI hp => hp.passU rfl rfl rfl (hp.b 24 6)) ?_; refine Free.Seq.pass (fun a w1 hI hp => hp.passU rfl rfl rfl (hp.b 24 7)) ?_; refine Free.Seq.pass (fun a w1 hI hp => hp.passU rfl rfl rfl (hp.b 24 8)) ?_; refine Free.Seq.pass (fun a w1 hI hp => hp.passU rfl rfl rfl (hp.b 24 9)) ?_; refine Free.sp 21 13 ?_; apply Free.sv; intro a w1 hI hp
        · have e38 := hp.b 21 14; have e52 := hp.b 35 0; refine ⟨Free.wn, ?_⟩; clear hp; go_simp; rfl
        refine Free.Seq.done (by simp) (fun wz hIz => ?_); simp only [List.reverse_cons, List.reverse_nil, List.nil_append, List.cons_append, Free.All, Free.eqF, forall_eq]
        skip
        simp only [Free.putL, Act.put, List.setIfInBounds_toArray, List.set_cons_zero, List.set_cons_succ]; have HBZ := Lib.hid (HBr.out.trans ((HB5.out.trans (hIz.mono (by omega))).mono (by omega))); clear hIz
        dsimp only [Exit.inBlock, Exit.then]
        go_wp2_with fail
        go_ret
        exact ⟨ret_bool (by rw [HR0.out]), HBZ.out⟩
      have t1 : (d == self) = false := by simpa using q1
      by_cases q2 : cn < 1
      · have HR0 : Hid (R = false) := by show R = _; rw [HQ.out, decide_eq_false (show ¬ (1 ≤ cn ∧ cn ≤ 65535) by omega)]; simp
        have t2 : decide (cn < 1) = true := by simpa using q2
        refine Free.wp_seq (I := fun w' => Below W5.heap.size W5 w') (Gr := fun w1 w2 => Below w1.heap.size w1 w2) (by kernel_rfl) (by kernel_rfl) (Below.refl _ _).drew ?_; apply Free.sv; intro a w1 hI hp
        · have e4 := hp.sl 4; simp at e4; refine ⟨Free.wn, ?_⟩; clear hp; go_simp; rfl
        apply Free.sv; intro a w1 hI hp
        · have e17 := hp.b 0 0; have ki0 := (hI.cell (p := ⟨wr.heap.size, 0, none⟩) hz5).trans i0; refine ⟨Free.wn, ?_⟩; clear hp; go_simp; rfl
        refine Free.Seq.call (T := Free.eqF (.bool true)) (fun _ _ _ h _ => h) (fun a w1 hI hp => ?_) ?_
        · have e18 := hp.b 1 0; refine ⟨Free.wn, 71, #[.int .i64 d, .int .i64 63], ?_, ?_⟩
          · clear hp; go_simp
          · refine (hN w1).mono ?_; rintro e w' ⟨rfl, rfl⟩; exact ⟨_, rfl, rfl, Below.refl _ _, hI⟩
        apply Free.sv; intro a w1 hI hp
        · have e19 := hp.b 2 0; refine ⟨Free.wn, ?_⟩; clear hp; go_simp; rfl
        apply Free.sv; intro a w1 hI hp
        · have e20 := hp.b 3 0; refine ⟨Free.wn, ?_⟩; clear hp; go_simp; rfl
        apply Free.sv; intro a w1 hI hp
        · have e21 := hp.b 4 0; have e4 := hp.sl 4; simp at e4; refine ⟨hp.wt e21, ?_⟩; clear hp; go_simp; rfl
        apply Free.sv; intro a w1 hI hp
        · have e21 := hp.b 4 1; have e22 := hp.b 5 0; have ki0 := (hI.cell (p := ⟨wr.heap.size, 0, none⟩) hz5).trans i0; refine ⟨hp.wt e21, ?_⟩; clear hp; go_simp; rfl
        apply Free.sv; intro a w1 hI hp
        · have e21 := hp.b 4 2; have e1 := hp.sl 1; simp at e1; refine ⟨hp.wt e21, ?_⟩; clear hp; go_simp; rfl
        apply Free.sv; intro a w1 hI hp
        · have e21 := hp.b 4 3; have e24 := hp.b 7 0; have ka0 := (hI.cell (p := ⟨w.heap.size, 0, none⟩) hzw).trans a0; refine ⟨hp.wt e21, ?_⟩; clear hp; go_simp; rfl
        apply Free.sv; intro a w1 hI hp
        · have e21 := hp.b 4 4; have e23 := hp.b 6 2; have e25 := hp.b 8 0; refine ⟨hp.wt e21, ?_⟩; clear hp; go_simp; rfl
        apply Free.sv; intro a w1 hI hp
        · have e21 := hp.b 4 5; have e26 := hp.b 9 0; refine ⟨Free.wn, ?_⟩; clear hp; go_simp; rfl
        apply Free.sv; intro a w1 hI hp
        · have e27 := hp.b 10 0; refine ⟨Free.wn, ?_⟩; clear hp; go_simp; rfl
        apply Free.sv; intro a w1 hI hp
        · have e28 := hp.b 11 0; have e4 := hp.sl 4; simp at e4; refine ⟨hp.wt e28, ?_⟩; clear hp; go_simp; rfl
        apply Free.sv; intro a w1 hI hp
        · have e28 := hp.b 11 1; have e29 := hp.b 12 0; have ki1 := (hI.cell (p := ⟨wr.heap.size, 1, none⟩) hz5).trans i1; refine ⟨hp.wt e28, ?_⟩; clear hp; go_simp; rfl
        apply Free.sv; intro a w1 hI hp
        · have e28 := hp.b 11 2; have e30 := hp.b 13 0; refine ⟨hp.wt e28, ?_⟩; clear hp; go_simp; rfl
        apply Free.sv; intro a w1 hI hp
        · have e28 := hp.b 11 3; have e31 := hp.b 14 0; refine ⟨Free.wn, ?_⟩; clear hp; go_simp; rfl
        apply Free.sv; intro a w1 hI hp
        · have e32 := hp.b 15 0; refine ⟨Free.wn, ?_⟩; clear hp; go_simp; rfl
        refine Free.sp 16 0 ?_; refine Free.sp 16 1 ?_; refine Free.sp 16 2 ?_; apply Free.sv; intro a w1 hI hp
        · have e33 := hp.b 16 3; have e36 := hp.b 19 0; refine ⟨Free.wn, ?_⟩; clear hp; go_simp; rfl
        apply Free.sv; intro a w1 hI hp
        · have e37 := hp.b 20 0; refine ⟨Free.wn, ?_⟩; clear hp; go_simp; rfl
        refine Free.sp 21 0 ?_; refine Free.sp 21 1 ?_; refine Free.sp 21 2 ?_; refine Free.Seq.pass (fun a w1 hI hp => hp.passU rfl rfl rfl (hp.b 24 0)) ?_; refine Free.Seq.pass (fun a w1 hI hp => hp.passU rfl rfl rfl (hp.b 24 1)) ?_; refine Free.Seq.pass (fun a w1 hI hp => hp.passU rfl rfl rfl (hp.b 24 2)) ?_; refine Free.Seq.pass (fun a w1 hI hp => hp.passU rfl rfl rfl (hp.b 24 3)) ?_; refine Free.Seq.pass (fun a w1 hI hp => hp.passU rfl rfl rfl (hp.b 24 4)) ?_; refine Free.Seq.pass (fun a w1 hI hp => hp.passU rfl rfl rfl (hp.b 24 5)) ?_; refine Free.Seq.pass (fun a w1 hI hp => hp.passU rfl rfl rfl (hp.b 24 6)) ?_; refine Free.Seq.pass (fun a w1 hI hp => hp.passU rfl rfl rfl (hp.b 24 7)) ?_; refine Free.Seq.pass (fun a w1 hI hp => hp.passU rfl rfl rfl (hp.b 24 8)) ?_; refine Free.Seq.pass (fun a w1 hI hp => hp.passU rfl rfl rfl (hp.b 24 9)) ?_; refine Free.sp 21 13 ?_; apply Free.sv; intro a w1 hI hp
        · have e38 := hp.b 21 14; have e52 := hp.b 35 0; refine ⟨Free.wn, ?_⟩; clear hp; go_simp; rfl
        refine Free.Seq.done (by simp) (fun wz hIz => ?_); simp only [List.reverse_cons, List.reverse_nil, List.nil_append, List.cons_append, Free.All, Free.eqF, forall_eq]
        skip
        simp only [Free.putL, Act.put, List.setIfInBounds_toArray, List.set_cons_zero, List.set_cons_succ]; have HBZ := Lib.hid (HBr.out.trans ((HB5.out.trans (hIz.mono (by omega))).mono (by omega))); clear hIz
        dsimp only [Exit.inBlock, Exit.then]
        go_wp2_with fail
        go_ret
        exact ⟨ret_bool (by rw [HR0.out]), HBZ.out⟩
      have t2 : decide (cn < 1) = false := by simpa using q2
      by_cases q3 : 65535 < cn
      · have HR0 : Hid (R = false) := by show R = _; rw [HQ.out, decide_eq_false (show ¬ (1 ≤ cn ∧ cn ≤ 65535) by omega)]; simp
        have t3 : decide (65535 < cn) = true := by simpa using q3
        refine Free.wp_seq (I := fun w' => Below W5.heap.size W5 w') (Gr := fun w1 w2 => Below w1.heap.size w1 w2) (by kernel_rfl) (by kernel_rfl) (Below.refl _ _).drew ?_; apply Free.sv; intro a w1 hI hp
        · have e4 := hp.sl 4; simp at e4; refine ⟨Free.wn, ?_⟩; clear hp; go_simp; rfl
        apply Free.sv; intro a w1 hI hp
        · have e17 := hp.b 0 0; have ki0 := (hI.cell (p := ⟨wr.heap.size, 0, none⟩) hz5).trans i0; refine ⟨Free.wn, ?_⟩; clear hp; go_simp; rfl
        refine Free.Seq.call (T := Free.eqF (.bool true)) (fun _ _ _ h _ => h) (fun a w1 hI hp => ?_) ?_
        · have e18 := hp.b 1 0; refine ⟨Free.wn, 71, #[.int .i64 d, .int .i64 63], ?_, ?_⟩
          · clear hp; go_simp
          · refine (hN w1).mono ?_; rintro e w' ⟨rfl, rfl⟩; exact ⟨_, rfl, rfl, Below.refl _ _, hI⟩
        apply Free.sv; intro a w1 hI hp
        · have e19 := hp.b 2 0; refine ⟨Free.wn, ?_⟩; clear hp; go_simp; rfl
        apply Free.sv; intro a w1 hI hp
        · have e20 := hp.b 3 0; refine ⟨Free.wn, ?_⟩; clear hp; go_simp; rfl
        apply Free.sv; intro a w1 hI hp
        · have e21 := hp.b 4 0; have e4 := hp.sl 4; simp at e4; refine ⟨hp.wt e21, ?_⟩; clear hp; go_simp; rfl
        apply Free.sv; intro a w1 hI hp
        · have e21 := hp.b 4 1; have e22 := hp.b 5 0; have ki0 := (hI.cell (p := ⟨wr.heap.size, 0, none⟩) hz5).trans i0; refine ⟨hp.wt e21, ?_⟩; clear hp; go_simp; rfl
        apply Free.sv; intro a w1 hI hp
        · have e21 := hp.b 4 2; have e1 := hp.sl 1; simp at e1; refine ⟨hp.wt e21, ?_⟩; clear hp; go_simp; rfl
        apply Free.sv; intro a w1 hI hp
        · have e21 := hp.b 4 3; have e24 := hp.b 7 0; have ka0 := (hI.cell (p := ⟨w.heap.size, 0, none⟩) hzw).trans a0; refine ⟨hp.wt e21, ?_⟩; clear hp; go_simp; rfl
        apply Free.sv; intro a w1 hI hp
        · have e21 := hp.b 4 4; have e23 := hp.b 6 2; have e25 := hp.b 8 0; refine ⟨hp.wt e21, ?_⟩; clear hp; go_simp; rfl
        apply Free.sv; intro a w1 hI hp
        · have e21 := hp.b 4 5; have e26 := hp.b 9 0; refine ⟨Free.wn, ?_⟩; clear hp; go_simp; rfl
        apply Free.sv; intro a w1 hI hp
        · have e27 := hp.b 10 0; refine ⟨Free.wn, ?_⟩; clear hp; go_simp; rfl
        apply Free.sv; intro a w1 hI hp
        · have e28 := hp.b 11 0; have e4 := hp.sl 4; simp at e4; refine ⟨hp.wt e28, ?_⟩; clear hp; go_simp; rfl
        apply Free.sv; intro a w1 hI hp
        · have e28 := hp.b 11 1; have e29 := hp.b 12 0; have ki1 := (hI.cell (p := ⟨wr.heap.size, 1, none⟩) hz5).trans i1; refine ⟨hp.wt e28, ?_⟩; clear hp; go_simp; rfl
        apply Free.sv; intro a w1 hI hp
        · have e28 := hp.b 11 2; have e30 := hp.b 13 0; refine ⟨hp.wt e28, ?_⟩; clear hp; go_simp; rfl
        apply Free.sv; intro a w1 hI hp
        · have e28 := hp.b 11 3; have e31 := hp.b 14 0; refine ⟨Free.wn, ?_⟩; clear hp; go_simp; rfl
        apply Free.sv; intro a w1 hI hp
        · have e32 := hp.b 15 0; refine ⟨Free.wn, ?_⟩; clear hp; go_simp; rfl
        apply Free.sv; intro a w1 hI hp
        · have e33 := hp.b 16 0; have e4 := hp.sl 4; simp at e4; refine ⟨hp.wt e33, ?_⟩; clear hp; go_simp; rfl
        apply Free.sv; intro a w1 hI hp
        · have e33 := hp.b 16 1; have e34 := hp.b 17 0; have ki1 := (hI.cell (p := ⟨wr.heap.size, 1, none⟩) hz5).trans i1; refine ⟨hp.wt e33, ?_⟩; clear hp; go_simp; rfl
        apply Free.sv; intro a w1 hI hp
        · have e33 := hp.b 16 2; have e35 := hp.b 18 0; refine ⟨hp.wt e33, ?_⟩; clear hp; go_simp; rfl
        apply Free.sv; intro a w1 hI hp
        · have e33 := hp.b 16 3; have e36 := hp.b 19 0; refine ⟨Free.wn, ?_⟩; clear hp; go_simp; rfl
        apply Free.sv; intro a w1 hI hp
        · have e37 := hp.b 20 0; refine ⟨Free.wn, ?_⟩; clear hp; go_simp; rfl
        refine Free.sp 21 0 ?_; refine Free.sp 21 1 ?_; refine Free.sp 21 2 ?_; refine Free.Seq.pass (fun a w1 hI hp => hp.passU rfl rfl rfl (hp.b 24 0)) ?_; refine Free.Seq.pass (fun a w1 hI hp => hp.passU rfl rfl rfl (hp.b 24 1)) ?_; refine Free.Seq.pass (fun a w1 hI hp => hp.passU rfl rfl rfl (hp.b 24 2)) ?_; refine Free.Seq.pass (fun a w1 hI hp => hp.passU rfl rfl rfl (hp.b 24 3)) ?_; refine Free.Seq.pass (fun a w1 hI hp => hp.passU rfl rfl rfl (hp.b 24 4)) ?_; refine Free.Seq.pass (fun a w1 hI hp => hp.passU rfl rfl rfl (hp.b 24 5)) ?_; refine Free.Seq.pass (fun a w1 hI hp => hp.passU rfl rfl rfl (hp.b 24 6)) ?_; refine Free.Seq.pass (fun a w1 hI hp => hp.passU rfl rfl rfl (hp.b 24 7)) ?_; refine Free.Seq.pass (fun a w1 hI hp => hp.passU rfl rfl rfl (hp.b 24 8)) ?_; refine Free.Seq.pass (fun a w1 hI hp => hp.passU rfl rfl rfl (hp.b 24 9)) ?_; refine Free.sp 21 13 ?_; apply Free.sv; intro a w1 hI hp
        · have e38 := hp.b 21 14; have e52 := hp.b 35 0; refine ⟨Free.wn, ?_⟩; clear hp; go_simp; rfl
        refine Free.Seq.done (by simp) (fun wz hIz => ?_); simp only [List.reverse_cons, List.reverse_nil, List.nil_append, List.cons_append, Free.All, Free.eqF, forall_eq]
        skip
        simp only [Free.putL, Act.put, List.setIfInBounds_toArray, List.set_cons_zero, List.set_cons_succ]; have HBZ := Lib.hid (HBr.out.trans ((HB5.out.trans (hIz.mono (by omega))).mono (by omega))); clear hIz
        dsimp only [Exit.inBlock, Exit.then]
        go_wp2_with fail
        go_ret
        exact ⟨ret_bool (by rw [HR0.out]), HBZ.out⟩
      have t3 : decide (65535 < cn) = false := by simpa using q3
      by_cases q4 : k = 0
      · have hr : R = (nextD self (prevD nx (k + 1)) (nx.drop (k + 1)) && ((decide (nx.length = 0) || decide (ep ≠ 0)) && decide (0 ≤ ep ∧ ep ≤ 65535))) := by
          rw [HQ.out, HPN.out, decide_eq_true q0, decide_eq_true (show d ≠ self from q1), decide_eq_true (show 1 ≤ cn ∧ cn ≤ 65535 by omega), prevD, if_pos q4, decide_eq_true (show (-1 : Int) < d by omega)]; simp
        have HR1 := Lib.hid hr; have t4 : decide (0 < k) = false := by simp; omega
        clear hr q4; refine Free.wp_seq (I := fun w' => Below W5.heap.size W5 w') (Gr := fun w1 w2 => Below w1.heap.size w1 w2) (by kernel_rfl) (by kernel_rfl) (Below.refl _ _).drew ?_; apply Free.sv; intro a w1 hI hp
        · have e4 := hp.sl 4; simp at e4; refine ⟨Free.wn, ?_⟩; clear hp; go_simp; rfl
        apply Free.sv; intro a w1 hI hp
        · have e17 := hp.b 0 0; have ki0 := (hI.cell (p := ⟨wr.heap.size, 0, none⟩) hz5).trans i0; refine ⟨Free.wn, ?_⟩; clear hp; go_simp; rfl
        refine Free.Seq.call (T := Free.eqF (.bool true)) (fun _ _ _ h _ => h) (fun a w1 hI hp => ?_) ?_
        · have e18 := hp.b 1 0; refine ⟨Free.wn, 71, #[.int .i64 d, .int .i64 63], ?_, ?_⟩
          · clear hp; go_simp
          · refine (hN w1).mono ?_; rintro e w' ⟨rfl, rfl⟩; exact ⟨_, rfl, rfl, Below.refl _ _, hI⟩
        apply Free.sv; intro a w1 hI hp
        · have e19 := hp.b 2 0; refine ⟨Free.wn, ?_⟩; clear hp; go_simp; rfl
        apply Free.sv; intro a w1 hI hp
        · have e20 := hp.b 3 0; refine ⟨Free.wn, ?_⟩; clear hp; go_simp; rfl
        apply Free.sv; intro a w1 hI hp
        · have e21 := hp.b 4 0; have e4 := hp.sl 4; simp at e4; refine ⟨hp.wt e21, ?_⟩; clear hp; go_simp; rfl
        apply Free.sv; intro a w1 hI hp
        · have e21 := hp.b 4 1; have e22 := hp.b 5 0; have ki0 := (hI.cell (p := ⟨wr.heap.size, 0, none⟩) hz5).trans i0; refine ⟨hp.wt e21, ?_⟩; clear hp; go_simp; rfl
        apply Free.sv; intro a w1 hI hp
        · have e21 := hp.b 4 2; have e1 := hp.sl 1; simp at e1; refine ⟨hp.wt e21, ?_⟩; clear hp; go_simp; rfl
        apply Free.sv; intro a w1 hI hp
        · have e21 := hp.b 4 3; have e24 := hp.b 7 0; have ka0 := (hI.cell (p := ⟨w.heap.size, 0, none⟩) hzw).trans a0; refine ⟨hp.wt e21, ?_⟩; clear hp; go_simp; rfl
        apply Free.sv; intro a w1 hI hp
        · have e21 := hp.b 4 4; have e23 := hp.b 6 2; have e25 := hp.b 8 0; refine ⟨hp.wt e21, ?_⟩; clear hp; go_simp; rfl
        apply Free.sv; intro a w1 hI hp
        · have e21 := hp.b 4 5; have e26 := hp.b 9 0; refine ⟨Free.wn, ?_⟩; clear hp; go_simp; rfl
        apply Free.sv; intro a w1 hI hp
        · have e27 := hp.b 10 0; refine ⟨Free.wn, ?_⟩; clear hp; go_simp; rfl
        apply Free.sv; intro a w1 hI hp
        · have e28 := hp.b 11 0; have e4 := hp.sl 4; simp at e4; refine ⟨hp.wt e28, ?_⟩; clear hp; go_simp; rfl
        apply Free.sv; intro a w1 hI hp
        · have e28 := hp.b 11 1; have e29 := hp.b 12 0; have ki1 := (hI.cell (p := ⟨wr.heap.size, 1, none⟩) hz5).trans i1; refine ⟨hp.wt e28, ?_⟩; clear hp; go_simp; rfl
        apply Free.sv; intro a w1 hI hp
        · have e28 := hp.b 11 2; have e30 := hp.b 13 0; refine ⟨hp.wt e28, ?_⟩; clear hp; go_simp; rfl
        apply Free.sv; intro a w1 hI hp
        · have e28 := hp.b 11 3; have e31 := hp.b 14 0; refine ⟨Free.wn, ?_⟩; clear hp; go_simp; rfl
        apply Free.sv; intro a w1 hI hp
        · have e32 := hp.b 15 0; refine ⟨Free.wn, ?_⟩; clear hp; go_simp; rfl
        apply Free.sv; intro a w1 hI hp
        · have e33 := hp.b 16 0; have e4 := hp.sl 4; simp at e4; refine ⟨hp.wt e33, ?_⟩; clear hp; go_simp; rfl
        apply Free.sv; intro a w1 hI hp
        · have e33 := hp.b 16 1; have e34 := hp.b 17 0; have ki1 := (hI.cell (p := ⟨wr.heap.size, 1, none⟩) hz5).trans i1; refine ⟨hp.wt e33, ?_⟩; clear hp; go_simp; rfl
        apply Free.sv; intro a w1 hI hp
        · have e33 := hp.b 16 2; have e35 := hp.b 18 0; refine ⟨hp.wt e33, ?_⟩; clear hp; go_simp; rfl
        apply Free.sv; intro a w1 hI hp
        · have e33 := hp.b 16 3; have e36 := hp.b 19 0; refine ⟨Free.wn, ?_⟩; clear hp; go_simp; rfl
        apply Free.sv; intro a w1 hI hp
        · have e37 := hp.b 20 0; refine ⟨Free.wn, ?_⟩; clear hp; go_simp; rfl
        apply Free.sv; intro a w1 hI hp
        · have e38 := hp.b 21 0; have e3 := hp.sl 3; simp at e3; refine ⟨hp.wt e38, ?_⟩; clear hp; go_simp; rfl
        apply Free.sv; intro a w1 hI hp
        · have e38 := hp.b 21 1; have e39 := hp.b 22 0; refine ⟨hp.wt e38, ?_⟩; clear hp; go_simp; rfl
        apply Free.sv; intro a w1 hI hp
        · have e38 := hp.b 21 2; have e40 := hp.b 23 0; refine ⟨hp.wt e38, ?_⟩; clear hp; go_simp; rfl
        refine Free.sp 24 0 ?_; refine Free.sp 24 1 ?_; refine Free.sp 24 2 ?_; refine Free.sp 24 3 ?_; refine Free.sp 24 4 ?_; refine Free.sp 24 5 ?_; refine Free.sp 24 6 ?_; refine Free.sp 24 7 ?_; refine Free.sp 24 8 ?_; refine Free.sp 24 9 ?_; apply Free.sv; intro a w1 hI hp
        · have e38 := hp.b 21 13; have e41 := hp.b 24 10; have e51 := hp.b 34 0; refine ⟨hp.wt e38, ?_⟩; clear hp; go_simp; rfl
        apply Free.sv; intro a w1 hI hp
        · have e38 := hp.b 21 14; have e52 := hp.b 35 0; refine ⟨Free.wn, ?_⟩; clear hp; go_simp; rfl
        refine Free.Seq.done (by simp) (fun wz hIz => ?_); simp only [List.reverse_cons, List.reverse_nil, List.nil_append, List.cons_append, Free.All, Free.eqF, forall_eq]
        skip
        simp only [Free.putL, Act.put, List.setIfInBounds_toArray, List.set_cons_zero, List.set_cons_succ]; have HBZ := Lib.hid (HBW.out.trans ((HB5.out.trans (hIz.mono (by omega))).mono hzr)); clear hIz
        dsimp only [Exit.inBlock, Exit.then]
        go_wp2_with fail
        exact ⟨⟨k + 1, by simp, by omega, HR1.out, HBZ.out⟩, by simp only [intOf]; omega⟩
      have t4 : decide (0 < k) = true := by simp; omega
      obtain ⟨p, hp, hpc⟩ := HPV.out (by omega); have hsub : IntKind.i64.wrap ((k : Int) - 1) = ((k - 1 : Nat) : Int) := by rw [IntWalk.i64_in _ (by omega)]; omega
      have hsub2 : (0 : Int) ≤ ((k - 1 : Nat) : Int) := by omega
      have hsub3 : ((k - 1 : Nat) : Int) < (n1 : Int) := by omega
      by_cases q5 : d ≤ p
      · have HR0 : Hid (R = false) := by show R = _; rw [HQ.out, hp, decide_eq_false (show ¬ p < d by omega)]; simp
        have t5 : decide (d ≤ p) = true := by simpa using q5
        refine Free.wp_seq (I := fun w' => Below W5.heap.size W5 w') (Gr := fun w1 w2 => Below w1.heap.size w1 w2) (by kernel_rfl) (by kernel_rfl) (Below.refl _ _).drew ?_; apply Free.sv; intro a w1 hI hp
        · have e4 := hp.sl 4; simp at e4; refine ⟨Free.wn, ?_⟩; clear hp; go_simp; rfl
        apply Free.sv; intro a w1 hI hp
        · have e17 := hp.b 0 0; have ki0 := (hI.cell (p := ⟨wr.heap.size, 0, none⟩) hz5).trans i0; refine ⟨Free.wn, ?_⟩; clear hp; go_simp; rfl
        refine Free.Seq.call (T := Free.eqF (.bool true)) (fun _ _ _ h _ => h) (fun a w1 hI hp => ?_) ?_
        · have e18 := hp.b 1 0; refine ⟨Free.wn, 71, #[.int .i64 d, .int .i64 63], ?_, ?_⟩
          · clear hp; go_simp
          · refine (hN w1).mono ?_; rintro e w' ⟨rfl, rfl⟩; exact ⟨_, rfl, rfl, Below.refl _ _, hI⟩
        apply Free.sv; intro a w1 hI hp
        · have e19 := hp.b 2 0; refine ⟨Free.wn, ?_⟩; clear hp; go_simp; rfl
        apply Free.sv; intro a w1 hI hp
        · have e20 := hp.b 3 0; refine ⟨Free.wn, ?_⟩; clear hp; go_simp; rfl
        apply Free.sv; intro a w1 hI hp
        · have e21 := hp.b 4 0; have e4 := hp.sl 4; simp at e4; refine ⟨hp.wt e21, ?_⟩; clear hp; go_simp; rfl
        apply Free.sv; intro a w1 hI hp
        · have e21 := hp.b 4 1; have e22 := hp.b 5 0; have ki0 := (hI.cell (p := ⟨wr.heap.size, 0, none⟩) hz5).trans i0; refine ⟨hp.wt e21, ?_⟩; clear hp; go_simp; rfl
        apply Free.sv; intro a w1 hI hp
        · have e21 := hp.b 4 2; have e1 := hp.sl 1; simp at e1; refine ⟨hp.wt e21, ?_⟩; clear hp; go_simp; rfl
        apply Free.sv; intro a w1 hI hp
        · have e21 := hp.b 4 3; have e24 := hp.b 7 0; have ka0 := (hI.cell (p := ⟨w.heap.size, 0, none⟩) hzw).trans a0; refine ⟨hp.wt e21, ?_⟩; clear hp; go_simp; rfl
        apply Free.sv; intro a w1 hI hp
        · have e21 := hp.b 4 4; have e23 := hp.b 6 2; have e25 := hp.b 8 0; refine ⟨hp.wt e21, ?_⟩; clear hp; go_simp; rfl
        apply Free.sv; intro a w1 hI hp
        · have e21 := hp.b 4 5; have e26 := hp.b 9 0; refine ⟨Free.wn, ?_⟩; clear hp; go_simp; rfl
        apply Free.sv; intro a w1 hI hp
        · have e27 := hp.b 10 0; refine ⟨Free.wn, ?_⟩; clear hp; go_simp; rfl
        apply Free.sv; intro a w1 hI hp
        · have e28 := hp.b 11 0; have e4 := hp.sl 4; simp at e4; refine ⟨hp.wt e28, ?_⟩; clear hp; go_simp; rfl
        apply Free.sv; intro a w1 hI hp
        · have e28 := hp.b 11 1; have e29 := hp.b 12 0; have ki1 := (hI.cell (p := ⟨wr.heap.size, 1, none⟩) hz5).trans i1; refine ⟨hp.wt e28, ?_⟩; clear hp; go_simp; rfl
        apply Free.sv; intro a w1 hI hp
        · have e28 := hp.b 11 2; have e30 := hp.b 13 0; refine ⟨hp.wt e28, ?_⟩; clear hp; go_simp; rfl
        apply Free.sv; intro a w1 hI hp
        · have e28 := hp.b 11 3; have e31 := hp.b 14 0; refine ⟨Free.wn, ?_⟩; clear hp; go_simp; rfl
        apply Free.sv; intro a w1 hI hp
        · have e32 := hp.b 15 0; refine ⟨Free.wn, ?_⟩; clear hp; go_simp; rfl
        apply Free.sv; intro a w1 hI hp
        · have e33 := hp.b 16 0; have e4 := hp.sl 4; simp at e4; refine ⟨hp.wt e33, ?_⟩; clear hp; go_simp; rfl
        apply Free.sv; intro a w1 hI hp
        · have e33 := hp.b 16 1; have e34 := hp.b 17 0; have ki1 := (hI.cell (p := ⟨wr.heap.size, 1, none⟩) hz5).trans i1; refine ⟨hp.wt e33, ?_⟩; clear hp; go_simp; rfl
        apply Free.sv; intro a w1 hI hp
        · have e33 := hp.b 16 2; have e35 := hp.b 18 0; refine ⟨hp.wt e33, ?_⟩; clear hp; go_simp; rfl
        apply Free.sv; intro a w1 hI hp
        · have e33 := hp.b 16 3; have e36 := hp.b 19 0; refine ⟨Free.wn, ?_⟩; clear hp; go_simp; rfl
        apply Free.sv; intro a w1 hI hp
        · have e37 := hp.b 20 0; refine ⟨Free.wn, ?_⟩; clear hp; go_simp; rfl
        apply Free.sv; intro a w1 hI hp
        · have e38 := hp.b 21 0; have e3 := hp.sl 3; simp at e3; refine ⟨hp.wt e38, ?_⟩; clear hp; go_simp; rfl
        apply Free.sv; intro a w1 hI hp
        · have e38 := hp.b 21 1; have e39 := hp.b 22 0; refine ⟨hp.wt e38, ?_⟩; clear hp; go_simp; rfl
        apply Free.sv; intro a w1 hI hp
        · have e38 := hp.b 21 2; have e40 := hp.b 23 0; refine ⟨hp.wt e38, ?_⟩; clear hp; go_simp; rfl
        apply Free.sv; intro a w1 hI hp
        · have e41 := hp.b 24 0; have e4 := hp.sl 4; simp at e4; refine ⟨hp.wt e41, ?_⟩; clear hp; go_simp; rfl
        apply Free.sv; intro a w1 hI hp
        · have e41 := hp.b 24 1; have e42 := hp.b 25 0; have ki0 := (hI.cell (p := ⟨wr.heap.size, 0, none⟩) hz5).trans i0; refine ⟨hp.wt e41, ?_⟩; clear hp; go_simp; rfl
        apply Free.sv; intro a w1 hI hp
        · have e41 := hp.b 24 2; have e1 := hp.sl 1; simp at e1; refine ⟨hp.wt e41, ?_⟩; clear hp; go_simp; rfl
        apply Free.sv; intro a w1 hI hp
        · have e41 := hp.b 24 3; have e44 := hp.b 27 0; have ka2 := (hI.cell (p := ⟨w.heap.size, 2, none⟩) hzw).trans a2; refine ⟨hp.wt e41, ?_⟩; clear hp; go_simp; rfl
        apply Free.sv; intro a w1 hI hp
        · have e41 := hp.b 24 4; have e3 := hp.sl 3; simp at e3; refine ⟨hp.wt e41, ?_⟩; clear hp; go_simp; rfl
        apply Free.sv; intro a w1 hI hp
        · have e41 := hp.b 24 5; have e46 := hp.b 29 0; refine ⟨hp.wt e41, ?_⟩; clear hp; go_simp; rfl
        apply Free.sv; intro a w1 hI hp
        · have e41 := hp.b 24 6; have e45 := hp.b 28 2; have e47 := hp.b 30 0; refine ⟨hp.wt e41, ?_⟩; clear hp; go_simp; rfl
        apply Free.sv; intro a w1 hI hp
        · have e41 := hp.b 24 7; have e48 := hp.b 31 0; refine ⟨hp.wt e41, ?_⟩; clear hp; go_simp; rfl
        apply Free.sv; intro a w1 hI hp
        · have e41 := hp.b 24 8; have e49 := hp.b 32 0; have kpc := (hI.cell (p := ⟨b, off + (k - 1) * 2, none⟩) hbl5).trans hpc; refine ⟨hp.wt e41, ?_⟩; clear hp; go_simp; rfl
        apply Free.sv; intro a w1 hI hp
        · have e41 := hp.b 24 9; have e43 := hp.b 26 7; have e50 := hp.b 33 0; refine ⟨hp.wt e41, ?_⟩; clear hp; go_simp; rfl
        apply Free.sv; intro a w1 hI hp
        · have e38 := hp.b 21 13; have e41 := hp.b 24 10; have e51 := hp.b 34 0; refine ⟨hp.wt e38, ?_⟩; clear hp; go_simp; rfl
        apply Free.sv; intro a w1 hI hp
        · have e38 := hp.b 21 14; have e52 := hp.b 35 0; refine ⟨Free.wn, ?_⟩; clear hp; go_simp; rfl
        refine Free.Seq.done (by simp) (fun wz hIz => ?_); simp only [List.reverse_cons, List.reverse_nil, List.nil_append, List.cons_append, Free.All, Free.eqF, forall_eq]
        skip
        simp only [Free.putL, Act.put, List.setIfInBounds_toArray, List.set_cons_zero, List.set_cons_succ]; have HBZ := Lib.hid (HBr.out.trans ((HB5.out.trans (hIz.mono (by omega))).mono (by omega))); clear hIz
        dsimp only [Exit.inBlock, Exit.then]
        go_wp2_with fail
        go_ret
        exact ⟨ret_bool (by rw [HR0.out]), HBZ.out⟩
      · have hr : R = (nextD self (prevD nx (k + 1)) (nx.drop (k + 1)) && ((decide (nx.length = 0) || decide (ep ≠ 0)) && decide (0 ≤ ep ∧ ep ≤ 65535))) := by
          rw [HQ.out, HPN.out, decide_eq_true q0, decide_eq_true (show d ≠ self from q1), decide_eq_true (show 1 ≤ cn ∧ cn ≤ 65535 by omega), hp, decide_eq_true (show p < d by omega)]; simp
        have HR1 := Lib.hid hr; have t5 : decide (d ≤ p) = false := by simpa using q5
        refine Free.wp_seq (I := fun w' => Below W5.heap.size W5 w') (Gr := fun w1 w2 => Below w1.heap.size w1 w2) (by kernel_rfl) (by kernel_rfl) (Below.refl _ _).drew ?_; apply Free.sv; intro a w1 hI hp
        · have e4 := hp.sl 4; simp at e4; refine ⟨Free.wn, ?_⟩; clear hp; go_simp; rfl
        apply Free.sv; intro a w1 hI hp
        · have e17 := hp.b 0 0; have ki0 := (hI.cell (p := ⟨wr.heap.size, 0, none⟩) hz5).trans i0; refine ⟨Free.wn, ?_⟩; clear hp; go_simp; rfl
        refine Free.Seq.call (T := Free.eqF (.bool true)) (fun _ _ _ h _ => h) (fun a w1 hI hp => ?_) ?_
        · have e18 := hp.b 1 0; refine ⟨Free.wn, 71, #[.int .i64 d, .int .i64 63], ?_, ?_⟩
          · clear hp; go_simp
          · refine (hN w1).mono ?_; rintro e w' ⟨rfl, rfl⟩; exact ⟨_, rfl, rfl, Below.refl _ _, hI⟩
        apply Free.sv; intro a w1 hI hp
        · have e19 := hp.b 2 0; refine ⟨Free.wn, ?_⟩; clear hp; go_simp; rfl
        apply Free.sv; intro a w1 hI hp
        · have e20 := hp.b 3 0; refine ⟨Free.wn, ?_⟩; clear hp; go_simp; rfl
        apply Free.sv; intro a w1 hI hp
        · have e21 := hp.b 4 0; have e4 := hp.sl 4; simp at e4; refine ⟨hp.wt e21, ?_⟩; clear hp; go_simp; rfl
        apply Free.sv; intro a w1 hI hp
        · have e21 := hp.b 4 1; have e22 := hp.b 5 0; have ki0 := (hI.cell (p := ⟨wr.heap.size, 0, none⟩) hz5).trans i0; refine ⟨hp.wt e21, ?_⟩; clear hp; go_simp; rfl
        apply Free.sv; intro a w1 hI hp
        · have e21 := hp.b 4 2; have e1 := hp.sl 1; simp at e1; refine ⟨hp.wt e21, ?_⟩; clear hp; go_simp; rfl
        apply Free.sv; intro a w1 hI hp
        · have e21 := hp.b 4 3; have e24 := hp.b 7 0; have ka0 := (hI.cell (p := ⟨w.heap.size, 0, none⟩) hzw).trans a0; refine ⟨hp.wt e21, ?_⟩; clear hp; go_simp; rfl
        apply Free.sv; intro a w1 hI hp
        · have e21 := hp.b 4 4; have e23 := hp.b 6 2; have e25 := hp.b 8 0; refine ⟨hp.wt e21, ?_⟩; clear hp; go_simp; rfl
        apply Free.sv; intro a w1 hI hp
        · have e21 := hp.b 4 5; have e26 := hp.b 9 0; refine ⟨Free.wn, ?_⟩; clear hp; go_simp; rfl
        apply Free.sv; intro a w1 hI hp
        · have e27 := hp.b 10 0; refine ⟨Free.wn, ?_⟩; clear hp; go_simp; rfl
        apply Free.sv; intro a w1 hI hp
        · have e28 := hp.b 11 0; have e4 := hp.sl 4; simp at e4; refine ⟨hp.wt e28, ?_⟩; clear hp; go_simp; rfl
        apply Free.sv; intro a w1 hI hp
        · have e28 := hp.b 11 1; have e29 := hp.b 12 0; have ki1 := (hI.cell (p := ⟨wr.heap.size, 1, none⟩) hz5).trans i1; refine ⟨hp.wt e28, ?_⟩; clear hp; go_simp; rfl
        apply Free.sv; intro a w1 hI hp
        · have e28 := hp.b 11 2; have e30 := hp.b 13 0; refine ⟨hp.wt e28, ?_⟩; clear hp; go_simp; rfl
        apply Free.sv; intro a w1 hI hp
        · have e28 := hp.b 11 3; have e31 := hp.b 14 0; refine ⟨Free.wn, ?_⟩; clear hp; go_simp; rfl
        apply Free.sv; intro a w1 hI hp
        · have e32 := hp.b 15 0; refine ⟨Free.wn, ?_⟩; clear hp; go_simp; rfl
        apply Free.sv; intro a w1 hI hp
        · have e33 := hp.b 16 0; have e4 := hp.sl 4; simp at e4; refine ⟨hp.wt e33, ?_⟩; clear hp; go_simp; rfl
        apply Free.sv; intro a w1 hI hp
        · have e33 := hp.b 16 1; have e34 := hp.b 17 0; have ki1 := (hI.cell (p := ⟨wr.heap.size, 1, none⟩) hz5).trans i1; refine ⟨hp.wt e33, ?_⟩; clear hp; go_simp; rfl
        apply Free.sv; intro a w1 hI hp
        · have e33 := hp.b 16 2; have e35 := hp.b 18 0; refine ⟨hp.wt e33, ?_⟩; clear hp; go_simp; rfl
        apply Free.sv; intro a w1 hI hp
        · have e33 := hp.b 16 3; have e36 := hp.b 19 0; refine ⟨Free.wn, ?_⟩; clear hp; go_simp; rfl
        apply Free.sv; intro a w1 hI hp
        · have e37 := hp.b 20 0; refine ⟨Free.wn, ?_⟩; clear hp; go_simp; rfl
        apply Free.sv; intro a w1 hI hp
        · have e38 := hp.b 21 0; have e3 := hp.sl 3; simp at e3; refine ⟨hp.wt e38, ?_⟩; clear hp; go_simp; rfl
        apply Free.sv; intro a w1 hI hp
        · have e38 := hp.b 21 1; have e39 := hp.b 22 0; refine ⟨hp.wt e38, ?_⟩; clear hp; go_simp; rfl
        apply Free.sv; intro a w1 hI hp
        · have e38 := hp.b 21 2; have e40 := hp.b 23 0; refine ⟨hp.wt e38, ?_⟩; clear hp; go_simp; rfl
        apply Free.sv; intro a w1 hI hp
        · have e41 := hp.b 24 0; have e4 := hp.sl 4; simp at e4; refine ⟨hp.wt e41, ?_⟩; clear hp; go_simp; rfl
        apply Free.sv; intro a w1 hI hp
        · have e41 := hp.b 24 1; have e42 := hp.b 25 0; have ki0 := (hI.cell (p := ⟨wr.heap.size, 0, none⟩) hz5).trans i0; refine ⟨hp.wt e41, ?_⟩; clear hp; go_simp; rfl
        apply Free.sv; intro a w1 hI hp
        · have e41 := hp.b 24 2; have e1 := hp.sl 1; simp at e1; refine ⟨hp.wt e41, ?_⟩; clear hp; go_simp; rfl
        apply Free.sv; intro a w1 hI hp
        · have e41 := hp.b 24 3; have e44 := hp.b 27 0; have ka2 := (hI.cell (p := ⟨w.heap.size, 2, none⟩) hzw).trans a2; refine ⟨hp.wt e41, ?_⟩; clear hp; go_simp; rfl
        apply Free.sv; intro a w1 hI hp
        · have e41 := hp.b 24 4; have e3 := hp.sl 3; simp at e3; refine ⟨hp.wt e41, ?_⟩; clear hp; go_simp; rfl
        apply Free.sv; intro a w1 hI hp
        · have e41 := hp.b 24 5; have e46 := hp.b 29 0; refine ⟨hp.wt e41, ?_⟩; clear hp; go_simp; rfl
        apply Free.sv; intro a w1 hI hp
        · have e41 := hp.b 24 6; have e45 := hp.b 28 2; have e47 := hp.b 30 0; refine ⟨hp.wt e41, ?_⟩; clear hp; go_simp; rfl
        apply Free.sv; intro a w1 hI hp
        · have e41 := hp.b 24 7; have e48 := hp.b 31 0; refine ⟨hp.wt e41, ?_⟩; clear hp; go_simp; rfl
        apply Free.sv; intro a w1 hI hp
        · have e41 := hp.b 24 8; have e49 := hp.b 32 0; have kpc := (hI.cell (p := ⟨b, off + (k - 1) * 2, none⟩) hbl5).trans hpc; refine ⟨hp.wt e41, ?_⟩; clear hp; go_simp; rfl
        apply Free.sv; intro a w1 hI hp
        · have e41 := hp.b 24 9; have e43 := hp.b 26 7; have e50 := hp.b 33 0; refine ⟨hp.wt e41, ?_⟩; clear hp; go_simp; rfl
        apply Free.sv; intro a w1 hI hp
        · have e38 := hp.b 21 13; have e41 := hp.b 24 10; have e51 := hp.b 34 0; refine ⟨hp.wt e38, ?_⟩; clear hp; go_simp; rfl
        apply Free.sv; intro a w1 hI hp
        · have e38 := hp.b 21 14; have e52 := hp.b 35 0; refine ⟨Free.wn, ?_⟩; clear hp; go_simp; rfl
        refine Free.Seq.done (by simp) (fun wz hIz => ?_); simp only [List.reverse_cons, List.reverse_nil, List.nil_append, List.cons_append, Free.All, Free.eqF, forall_eq]
        skip
        simp only [Free.putL, Act.put, List.setIfInBounds_toArray, List.set_cons_zero, List.set_cons_succ]; have HBZ := Lib.hid (HBW.out.trans ((HB5.out.trans (hIz.mono (by omega))).mono hzr)); clear hIz
        dsimp only [Exit.inBlock, Exit.then]
        go_wp2_with fail
        exact ⟨⟨k + 1, by simp, by omega, HR1.out, HBZ.out⟩, by simp only [intOf]; omega⟩
    · have hkn : k = n1 := by omega
      subst hkn; have hr : R = ((decide (k = 0) || decide (ep ≠ 0)) && decide (0 ≤ ep ∧ ep ≤ 65535)) := by
        rw [HQ.out, List.drop_of_length_le (by rw [HL.out]; exact Nat.le_refl _), nextD, Bool.true_and, HL.out]
      have HR1 := Lib.hid hr; have h1 := HN.out ep 65535
      by_cases q0 : 0 ≤ ep ∧ ep ≤ 65535
      · rw [decide_eq_true q0] at h1; have H1 := Lib.hid h1; have hr2 : R = (decide (0 < ep) || decide (k = 0)) := by
          rw [HR1.out, decide_eq_true q0, Bool.and_true, Bool.or_comm, Bool.eq_iff_iff]; simp; omega
        have HR2 := Lib.hid hr2; clear h1 hr hr2 HQ
        go_wp2_with (first | (go_at_call 71; ((with_reducible refine (H1.out _).mono ?_); rintro e w' ⟨rfl, rfl⟩)))
        all_goals
          go_ret
          refine ⟨ret_bool ?_, HBr.out⟩; rw [HR2.out, Bool.eq_iff_iff]
          first | (simp; done) | (simp; omega)
      · rw [decide_eq_false q0] at h1; have H1 := Lib.hid h1; have HR2 : Hid (R = false) := by show R = false; rw [HR1.out, decide_eq_false q0, Bool.and_false]
        clear h1 hr HQ q0
        go_wp2_with (first | (go_at_call 71; ((with_reducible refine (H1.out _).mono ?_); rintro e w' ⟨rfl, rfl⟩)))
        go_ret
        exact ⟨ret_bool (by rw [HR2.out]), HBr.out⟩
end Go.Proofs.Ytcnlgcmooegfkaa
namespace Go.Proofs.Ytcnlgcmooegfkaa
open Go.RowKit Mg Sn

set_option maxRecDepth 100000 in
set_option maxHeartbeats 8000000 in
theorem rright_any' (x : Mk) (A : Option Addr) (c B : Nat) (w : World) (hR : RdE EInt 1 w B A x.m.length c x.m) :
    Calls Try.prog 72 #[.agg #[.int .i64 x.o, .int .i64 x.e, .int .i64 x.u, .slice A x.m.length c]] w fun e w' => e = .returned (.bool (rightB x)) ∧ Below w.heap.size w w' := by
  obtain ⟨o, e, u, m⟩ := x; simp only at hR ⊢; obtain ⟨R, hRR⟩ : ∃ R, R = rightB ⟨o, e, u, m⟩ := ⟨_, rfl⟩; rw [← hRR]; unfold rightB at hRR; simp only at hRR; obtain ⟨n, hn⟩ : ∃ n, n = m.length := ⟨_, rfl⟩; rw [← hn] at hR hRR ⊢; have HN := Lib.hid hR; have HRR := Lib.hid hRR; have HL := Lib.hid hn; have hbig := hR.big; clear hR hRR hn
  by_cases hin : (0 ≤ o ∧ o ≤ 63) ∧ (1 ≤ e ∧ e ≤ 65535) ∧ (0 ≤ u ∧ u ≤ 65535) ∧ (u ≠ 0 ∨ n ≠ 0)
  rotate_left
  · have HR0 : Hid (R = false) := by
      show R = false
      rw [HRR.out]; simp only [Bool.and_eq_false_iff, decide_eq_false_iff_not, Bool.or_eq_false_iff]; omega
    clear HRR
    go_enter Try.func72, Try.ntmps72
    go_wp2_with fail
    all_goals first
      | (go_ret; exact ⟨ret_bool (by rw [HR0.out]), (Below.refl _ _).alloc (Nat.le_refl _) _⟩)
      | (exfalso; apply hin; simp at *; omega)
  obtain ⟨ho, he, hu, hun⟩ := hin; have e1 : R = moreB (u + 1) m := by
    rw [HRR.out, decide_eq_true ho, decide_eq_true he, decide_eq_true hu]; have : (decide (0 < u) || decide (0 < n)) = true := by simp; omega
    rw [this]; simp
  have H0 : Hid (R = moreB (u + 1) (m.drop 0)) := by show R = _; rw [e1, List.drop_zero]
  have hu0 : 0 ≤ u := hu.1; have hu1 : u ≤ 65535 := hu.2; have o0 : decide (o < 0) = false := by simp; omega
  have o1 : decide (64 ≤ o) = false := by simp; omega
  have e2 : decide (e < 1) = false := by simp; omega
  have e3 : decide (65535 < e) = false := by simp; omega
  have u2 : decide (u < 0) = false := by simp; omega
  have u3 : decide (65535 < u) = false := by simp; omega
  have HUN := Lib.hid hun; clear HRR e1 ho he hu hun
  by_cases hz : u = 0
  · have hn0 : ((n : Int) == 0) = false := by have := HUN.out; simp; omega
    have z0 : (u == 0) = true := by simpa using hz
    clear hz
    go_enter Try.func72, Try.ntmps72
    go_wp2_with fail
    obtain ⟨W, hW⟩ : ∃ W, W = w.alloc (.cells #[.int .i64 o, .int .i64 e, .int .i64 u, .slice A n c] 58) := ⟨_, rfl⟩; rw [← hW]; have hz : w.heap.size < W.heap.size := by rw [hW]; simp
    have a2 : W.cell? ⟨w.heap.size, 2, none⟩ = some (.int .i64 u) := by rw [hW]; exact World.cell?_alloc_mark w _ _ _ 2
    have a3 : W.cell? ⟨w.heap.size, 3, none⟩ = some (.slice A n c) := by rw [hW]; exact World.cell?_alloc_mark w _ _ _ 3
    have HB : Hid (Below w.heap.size w W) := by show Below _ _ _; rw [hW]; exact (Below.refl _ _).alloc (Nat.le_refl _) _
    clear hW o0 o1 e2 e3 u2 u3 z0
    go_loopw [3] (fun i wr => ∃ k : Nat, i = .int .i64 k ∧ k ≤ n ∧ Hid ((∃ la, R = moreB la (m.drop k) ∧ (k = 0 → la = u + 1) ∧ (0 < k → u + 2 ≤ la ∧ m[k - 1]? = some la)) ∧ Below W.heap.size W wr)) (fun i _ => n - (intOf i).toNat)
    case atStart => exact ⟨0, rfl, Nat.zero_le _, ⟨u + 1, H0.out, fun _ => rfl, fun h => absurd h (by omega)⟩, Below.refl _ _⟩
    case round =>
      obtain ⟨k, rfl, hk, ⟨la, hq, hl0, hl1⟩, hb⟩ := hrel; have HQ := Lib.hid hq; have HL0 := Lib.hid hl0; have HL1 := Lib.hid hl1; have HBW := Lib.hid hb; have hzr := hb.size; have HBr := Lib.hid (HB.out.trans (hb.mono (by omega))); have a2 := (hb.cell (p := ⟨w.heap.size, 2, none⟩) hz).trans a2; have a3 := (hb.cell (p := ⟨w.heap.size, 3, none⟩) hz).trans a3; have hzw : w.heap.size < wr.heap.size := by omega
      clear hq hl0 hl1 hb
      by_cases hlt : k < n
      · obtain ⟨b, off, x, cs, rfl, hBb, hbl, hx, hcs, hlen, hcell⟩ := (HN.out.below keeps_int HBr.out).at' hlt; unfold EInt at hcs; subst hcs; have c0 := hcell 0 _ rfl; rw [Nat.mul_one, Nat.add_zero] at c0; have hpc : 0 < k → wr.cell? ⟨b, off + (k - 1), none⟩ = some (.int .i64 la) := fun h0 => by
          obtain ⟨b', off', y, cs', hbo, _, _, hy, hcs', _, hcell'⟩ := (HN.out.below keeps_int HBr.out).at' (show k - 1 < n by omega); unfold EInt at hcs'; subst hcs'; injection hbo with hbo
          injection hbo with hb1 hb2
          subst hb1 hb2; have d0 := hcell' 0 _ rfl; rw [Nat.mul_one, Nat.add_zero] at d0; have := (HL1.out h0).2; rw [hy] at this; injection this with this
          rwa [this] at d0
        have HPC := Lib.hid hpc; rw [moreB_drop hx] at HQ; have HX := Lib.hid hx; have hkb : k < 281474976710656 := by omega
        have hadd : IntKind.i64.wrap (u + 2) = u + 2 := IntWalk.i64_in _ (by omega); clear hcell hlen hx hpc
        go_wp2_with fail
        by_cases q0 : x < u + 2
        · have HR0 : Hid (R = false) := by
            show R = _
            rw [HQ.out, decide_eq_false (show ¬ la < x from fun h => by
              rcases Nat.eq_zero_or_pos k with h0 | h0
              · have := HL0.out h0; omega
              · have := (HL1.out h0).1; omega)]
            simp
          have t0 : decide (x < u + 2) = true := by simpa using q0
          refine Free.wp_seq (I := fun w' => Below wr.heap.size wr w') (Gr := fun w1 w2 => Below w1.heap.size w1 w2) (by kernel_rfl) (by kernel_rfl) (Below.refl _ _).drew ?_; apply Free.sv; intro a w1 hI hp
          · have e1 := hp.sl 1; simp at e1; refine ⟨Free.wn, ?_⟩; clear hp; go_simp; rfl
          apply Free.sv; intro a w1 hI hp
          · have e50 := hp.b 0 0; have ka3 := (hI.cell (p := ⟨w.heap.size, 3, none⟩) hzw).trans a3; refine ⟨Free.wn, ?_⟩; clear hp; go_simp; rfl
          apply Free.sv; intro a w1 hI hp
          · have e3 := hp.sl 3; simp at e3; refine ⟨Free.wn, ?_⟩; clear hp; go_simp; rfl
          apply Free.sv; intro a w1 hI hp
          · have e51 := hp.b 1 1; have e52 := hp.b 2 0; refine ⟨Free.wn, ?_⟩; clear hp; go_simp; rfl
          apply Free.sv; intro a w1 hI hp
          · have e53 := hp.b 3 0; have kc0 := (hI.cell (p := ⟨b, off + k, none⟩) hbl).trans c0; refine ⟨Free.wn, ?_⟩; clear hp; go_simp; rfl
          apply Free.sv; intro a w1 hI hp
          · have e1 := hp.sl 1; simp at e1; refine ⟨Free.wn, ?_⟩; clear hp; go_simp; rfl
          apply Free.sv; intro a w1 hI hp
          · have e55 := hp.b 5 0; have ka2 := (hI.cell (p := ⟨w.heap.size, 2, none⟩) hzw).trans a2; refine ⟨Free.wn, ?_⟩; clear hp; go_simp; rfl
          apply Free.sv; intro a w1 hI hp
          · have e56 := hp.b 6 0; refine ⟨Free.wn, ?_⟩; clear hp; go_simp; rfl
          apply Free.sv; intro a w1 hI hp
          · have e54 := hp.b 4 3; have e57 := hp.b 7 0; refine ⟨Free.wn, ?_⟩; clear hp; go_simp; rfl
          apply Free.sv; intro a w1 hI hp
          · have e58 := hp.b 8 0; refine ⟨Free.wn, ?_⟩; clear hp; go_simp; rfl
          refine Free.sp 9 0 ?_; refine Free.sp 9 1 ?_; refine Free.sp 9 2 ?_; refine Free.sp 9 3 ?_; refine Free.sp 9 4 ?_; refine Free.sp 9 5 ?_; apply Free.sv; intro a w1 hI hp
          · have e59 := hp.b 9 6; have e65 := hp.b 15 0; refine ⟨Free.wn, ?_⟩; clear hp; go_simp; rfl
          apply Free.sv; intro a w1 hI hp
          · have e66 := hp.b 16 0; refine ⟨Free.wn, ?_⟩; clear hp; go_simp; rfl
          refine Free.sp 17 0 ?_; refine Free.sp 17 1 ?_; refine Free.sp 17 2 ?_; refine Free.Seq.pass (fun a w1 hI hp => hp.passU rfl rfl rfl (hp.b 20 0)) ?_; refine Free.Seq.pass (fun a w1 hI hp => hp.passU rfl rfl rfl (hp.b 20 1)) ?_; refine Free.Seq.pass (fun a w1 hI hp => hp.passU rfl rfl rfl (hp.b 20 2)) ?_; refine Free.Seq.pass (fun a w1 hI hp => hp.passU rfl rfl rfl (hp.b 20 3)) ?_; refine Free.Seq.pass (fun a w1 hI hp => hp.passU rfl rfl rfl (hp.b 20 4)) ?_; refine Free.Seq.pass (fun a w1 hI hp => hp.passU rfl rfl rfl (hp.b 20 5)) ?_; refine Free.Seq.pass (fun a w1 hI hp => hp.passU rfl rfl rfl (hp.b 20 6)) ?_; refine Free.Seq.pass (fun a w1 hI hp => hp.passU rfl rfl rfl (hp.b 20 7)) ?_; refine Free.Seq.pass (fun a w1 hI hp => hp.passU rfl rfl rfl (hp.b 20 8)) ?_; refine Free.Seq.pass (fun a w1 hI hp => hp.passU rfl rfl rfl (hp.b 20 9)) ?_; refine Free.Seq.pass (fun a w1 hI hp => hp.passU rfl rfl rfl (hp.b 20 10)) ?_; refine Free.Seq.pass (fun a w1 hI hp => hp.passU rfl rfl rfl (hp.b 20 11)) ?_; refine Free.sp 17 15 ?_; apply Free.sv; intro a w1 hI hp
          · have e67 := hp.b 17 16; have e83 := hp.b 33 0; refine ⟨Free.wn, ?_⟩; clear hp; go_simp; rfl
          refine Free.Seq.done (by simp) (fun wz hIz => ?_); simp only [List.reverse_cons, List.reverse_nil, List.nil_append, List.cons_append, Free.All, Free.eqF, forall_eq]
          skip
          simp only [Free.putL, Act.put, List.setIfInBounds_toArray, List.set_cons_zero, List.set_cons_succ]; have HBZ := Lib.hid (HBr.out.trans (hIz.mono (by omega))); clear hIz
          dsimp only [Exit.inBlock, Exit.then]
          go_wp2_with fail
          go_ret
          exact ⟨ret_bool (by rw [HR0.out]), HBZ.out⟩
        have t0 : decide (x < u + 2) = false := by simpa using q0
        by_cases q1 : 65535 < x
        · have HR0 : Hid (R = false) := by show R = _; rw [HQ.out, decide_eq_false (show ¬ x ≤ 65535 by omega)]; simp
          have t1 : decide (65535 < x) = true := by simpa using q1
          refine Free.wp_seq (I := fun w' => Below wr.heap.size wr w') (Gr := fun w1 w2 => Below w1.heap.size w1 w2) (by kernel_rfl) (by kernel_rfl) (Below.refl _ _).drew ?_; apply Free.sv; intro a w1 hI hp
          · have e1 := hp.sl 1; simp at e1; refine ⟨Free.wn, ?_⟩; clear hp; go_simp; rfl
          apply Free.sv; intro a w1 hI hp
          · have e50 := hp.b 0 0; have ka3 := (hI.cell (p := ⟨w.heap.size, 3, none⟩) hzw).trans a3; refine ⟨Free.wn, ?_⟩; clear hp; go_simp; rfl
          apply Free.sv; intro a w1 hI hp
          · have e3 := hp.sl 3; simp at e3; refine ⟨Free.wn, ?_⟩; clear hp; go_simp; rfl
          apply Free.sv; intro a w1 hI hp
          · have e51 := hp.b 1 1; have e52 := hp.b 2 0; refine ⟨Free.wn, ?_⟩; clear hp; go_simp; rfl
          apply Free.sv; intro a w1 hI hp
          · have e53 := hp.b 3 0; have kc0 := (hI.cell (p := ⟨b, off + k, none⟩) hbl).trans c0; refine ⟨Free.wn, ?_⟩; clear hp; go_simp; rfl
          apply Free.sv; intro a w1 hI hp
          · have e1 := hp.sl 1; simp at e1; refine ⟨Free.wn, ?_⟩; clear hp; go_simp; rfl
          apply Free.sv; intro a w1 hI hp
          · have e55 := hp.b 5 0; have ka2 := (hI.cell (p := ⟨w.heap.size, 2, none⟩) hzw).trans a2; refine ⟨Free.wn, ?_⟩; clear hp; go_simp; rfl
          apply Free.sv; intro a w1 hI hp
          · have e56 := hp.b 6 0; refine ⟨Free.wn, ?_⟩; clear hp; go_simp; rfl
          apply Free.sv; intro a w1 hI hp
          · have e54 := hp.b 4 3; have e57 := hp.b 7 0; refine ⟨Free.wn, ?_⟩; clear hp; go_simp; rfl
          apply Free.sv; intro a w1 hI hp
          · have e58 := hp.b 8 0; refine ⟨Free.wn, ?_⟩; clear hp; go_simp; rfl
          apply Free.sv; intro a w1 hI hp
          · have e59 := hp.b 9 0; have e1 := hp.sl 1; simp at e1; refine ⟨hp.wt e59, ?_⟩; clear hp; go_simp; rfl
          apply Free.sv; intro a w1 hI hp
          · have e59 := hp.b 9 1; have e60 := hp.b 10 0; have ka3 := (hI.cell (p := ⟨w.heap.size, 3, none⟩) hzw).trans a3; refine ⟨hp.wt e59, ?_⟩; clear hp; go_simp; rfl
          apply Free.sv; intro a w1 hI hp
          · have e59 := hp.b 9 2; have e3 := hp.sl 3; simp at e3; refine ⟨hp.wt e59, ?_⟩; clear hp; go_simp; rfl
          apply Free.sv; intro a w1 hI hp
          · have e59 := hp.b 9 3; have e61 := hp.b 11 1; have e62 := hp.b 12 0; refine ⟨hp.wt e59, ?_⟩; clear hp; go_simp; rfl
          apply Free.sv; intro a w1 hI hp
          · have e59 := hp.b 9 4; have e63 := hp.b 13 0; have kc0 := (hI.cell (p := ⟨b, off + k, none⟩) hbl).trans c0; refine ⟨hp.wt e59, ?_⟩; clear hp; go_simp; rfl
          apply Free.sv; intro a w1 hI hp
          · have e59 := hp.b 9 5; have e64 := hp.b 14 0; refine ⟨hp.wt e59, ?_⟩; clear hp; go_simp; rfl
          apply Free.sv; intro a w1 hI hp
          · have e59 := hp.b 9 6; have e65 := hp.b 15 0; refine ⟨Free.wn, ?_⟩; clear hp; go_simp; rfl
          apply Free.sv; intro a w1 hI hp
          · have e66 := hp.b 16 0; refine ⟨Free.wn, ?_⟩; clear hp; go_simp; rfl
          refine Free.sp 17 0 ?_; refine Free.sp 17 1 ?_; refine Free.sp 17 2 ?_; refine Free.Seq.pass (fun a w1 hI hp => hp.passU rfl rfl rfl (hp.b 20 0)) ?_; refine Free.Seq.pass (fun a w1 hI hp => hp.passU rfl rfl rfl (hp.b 20 1)) ?_; refine Free.Seq.pass (fun a w1 hI hp => hp.passU rfl rfl rfl (hp.b 20 2)) ?_; refine Free.Seq.pass (fun a w1 hI hp => hp.passU rfl rfl rfl (hp.b 20 3)) ?_; refine Free.Seq.pass (fun a w1 hI hp => hp.passU rfl rfl rfl (hp.b 20 4)) ?_; refine Free.Seq.pass (fun a w1 hI hp => hp.passU rfl rfl rfl (hp.b 20 5)) ?_; refine Free.Seq.pass (fun a w1 hI hp => hp.passU rfl rfl rfl (hp.b 20 6)) ?_; refine Free.Seq.pass (fun a w1 hI hp => hp.passU rfl rfl rfl (hp.b 20 7)) ?_; refine Free.Seq.pass (fun a w1 hI hp => hp.passU rfl rfl rfl (hp.b 20 8)) ?_; refine Free.Seq.pass (fun a w1 hI hp => hp.passU rfl rfl rfl (hp.b 20 9)) ?_; refine Free.Seq.pass (fun a w1 hI hp => hp.passU rfl rfl rfl (hp.b 20 10)) ?_; refine Free.Seq.pass (fun a w1 hI hp => hp.passU rfl rfl rfl (hp.b 20 11)) ?_; refine Free.sp 17 15 ?_; apply Free.sv; intro a w1 hI hp
          · have e67 := hp.b 17 16; have e83 := hp.b 33 0; refine ⟨Free.wn, ?_⟩; clear hp; go_simp; rfl
          refine Free.Seq.done (by simp) (fun wz hIz => ?_); simp only [List.reverse_cons, List.reverse_nil, List.nil_append, List.cons_append, Free.All, Free.eqF, forall_eq]
          skip
          simp only [Free.putL, Act.put, List.setIfInBounds_toArray, List.set_cons_zero, List.set_cons_succ]; have HBZ := Lib.hid (HBr.out.trans (hIz.mono (by omega))); clear hIz
          dsimp only [Exit.inBlock, Exit.then]
          go_wp2_with fail
          go_ret
          exact ⟨ret_bool (by rw [HR0.out]), HBZ.out⟩
        have t1 : decide (65535 < x) = false := by simpa using q1
        by_cases q2 : k = 0
        · have hr : R = moreB x (m.drop (k + 1)) := by
            rw [HQ.out, decide_eq_true (show la < x by have := HL0.out q2; omega), decide_eq_true (show x ≤ 65535 by omega)]; simp
          have HR1 := Lib.hid hr; have t2 : decide (0 < k) = false := by simp; omega
          clear hr q2; refine Free.wp_seq (I := fun w' => Below wr.heap.size wr w') (Gr := fun w1 w2 => Below w1.heap.size w1 w2) (by kernel_rfl) (by kernel_rfl) (Below.refl _ _).drew ?_; apply Free.sv; intro a w1 hI hp
          · have e1 := hp.sl 1; simp at e1; refine ⟨Free.wn, ?_⟩; clear hp; go_simp; rfl
          apply Free.sv; intro a w1 hI hp
          · have e50 := hp.b 0 0; have ka3 := (hI.cell (p := ⟨w.heap.size, 3, none⟩) hzw).trans a3; refine ⟨Free.wn, ?_⟩; clear hp; go_simp; rfl
          apply Free.sv; intro a w1 hI hp
          · have e3 := hp.sl 3; simp at e3; refine ⟨Free.wn, ?_⟩; clear hp; go_simp; rfl
          apply Free.sv; intro a w1 hI hp
          · have e51 := hp.b 1 1; have e52 := hp.b 2 0; refine ⟨Free.wn, ?_⟩; clear hp; go_simp; rfl
          apply Free.sv; intro a w1 hI hp
          · have e53 := hp.b 3 0; have kc0 := (hI.cell (p := ⟨b, off + k, none⟩) hbl).trans c0; refine ⟨Free.wn, ?_⟩; clear hp; go_simp; rfl
          apply Free.sv; intro a w1 hI hp
          · have e1 := hp.sl 1; simp at e1; refine ⟨Free.wn, ?_⟩; clear hp; go_simp; rfl
          apply Free.sv; intro a w1 hI hp
          · have e55 := hp.b 5 0; have ka2 := (hI.cell (p := ⟨w.heap.size, 2, none⟩) hzw).trans a2; refine ⟨Free.wn, ?_⟩; clear hp; go_simp; rfl
          apply Free.sv; intro a w1 hI hp
          · have e56 := hp.b 6 0; refine ⟨Free.wn, ?_⟩; clear hp; go_simp; rfl
          apply Free.sv; intro a w1 hI hp
          · have e54 := hp.b 4 3; have e57 := hp.b 7 0; refine ⟨Free.wn, ?_⟩; clear hp; go_simp; rfl
          apply Free.sv; intro a w1 hI hp
          · have e58 := hp.b 8 0; refine ⟨Free.wn, ?_⟩; clear hp; go_simp; rfl
          apply Free.sv; intro a w1 hI hp
          · have e59 := hp.b 9 0; have e1 := hp.sl 1; simp at e1; refine ⟨hp.wt e59, ?_⟩; clear hp; go_simp; rfl
          apply Free.sv; intro a w1 hI hp
          · have e59 := hp.b 9 1; have e60 := hp.b 10 0; have ka3 := (hI.cell (p := ⟨w.heap.size, 3, none⟩) hzw).trans a3; refine ⟨hp.wt e59, ?_⟩; clear hp; go_simp; rfl
          apply Free.sv; intro a w1 hI hp
          · have e59 := hp.b 9 2; have e3 := hp.sl 3; simp at e3; refine ⟨hp.wt e59, ?_⟩; clear hp; go_simp; rfl
          apply Free.sv; intro a w1 hI hp
          · have e59 := hp.b 9 3; have e61 := hp.b 11 1; have e62 := hp.b 12 0; refine ⟨hp.wt e59, ?_⟩; clear hp; go_simp; rfl
          apply Free.sv; intro a w1 hI hp
          · have e59 := hp.b 9 4; have e63 := hp.b 13 0; have kc0 := (hI.cell (p := ⟨b, off + k, none⟩) hbl).trans c0; refine ⟨hp.wt e59, ?_⟩; clear hp; go_simp; rfl
          apply Free.sv; intro a w1 hI hp
          · have e59 := hp.b 9 5; have e64 := hp.b 14 0; refine ⟨hp.wt e59, ?_⟩; clear hp; go_simp; rfl
          apply Free.sv; intro a w1 hI hp
          · have e59 := hp.b 9 6; have e65 := hp.b 15 0; refine ⟨Free.wn, ?_⟩; clear hp; go_simp; rfl
          apply Free.sv; intro a w1 hI hp
          · have e66 := hp.b 16 0; refine ⟨Free.wn, ?_⟩; clear hp; go_simp; rfl
          apply Free.sv; intro a w1 hI hp
          · have e67 := hp.b 17 0; have e3 := hp.sl 3; simp at e3; refine ⟨hp.wt e67, ?_⟩; clear hp; go_simp; rfl
          apply Free.sv; intro a w1 hI hp
          · have e67 := hp.b 17 1; have e68 := hp.b 18 0; refine ⟨hp.wt e67, ?_⟩; clear hp; go_simp; rfl
          apply Free.sv; intro a w1 hI hp
          · have e67 := hp.b 17 2; have e69 := hp.b 19 0; refine ⟨hp.wt e67, ?_⟩; clear hp; go_simp; rfl
          refine Free.sp 20 0 ?_; refine Free.sp 20 1 ?_; refine Free.sp 20 2 ?_; refine Free.sp 20 3 ?_; refine Free.sp 20 4 ?_; refine Free.sp 20 5 ?_; refine Free.sp 20 6 ?_; refine Free.sp 20 7 ?_; refine Free.sp 20 8 ?_; refine Free.sp 20 9 ?_; refine Free.sp 20 10 ?_; refine Free.sp 20 11 ?_; apply Free.sv; intro a w1 hI hp
          · have e67 := hp.b 17 15; have e70 := hp.b 20 12; have e82 := hp.b 32 0; refine ⟨hp.wt e67, ?_⟩; clear hp; go_simp; rfl
          apply Free.sv; intro a w1 hI hp
          · have e67 := hp.b 17 16; have e83 := hp.b 33 0; refine ⟨Free.wn, ?_⟩; clear hp; go_simp; rfl
          refine Free.Seq.done (by simp) (fun wz hIz => ?_); simp only [List.reverse_cons, List.reverse_nil, List.nil_append, List.cons_append, Free.All, Free.eqF, forall_eq]
          skip
          simp only [Free.putL, Act.put, List.setIfInBounds_toArray, List.set_cons_zero, List.set_cons_succ]; have HBZ := Lib.hid (HBW.out.trans (hIz.mono hzr)); have HLA : Hid (u + 2 ≤ x ∧ m[k + 1 - 1]? = some x) := ⟨by omega, HX.out⟩; clear hIz
          dsimp only [Exit.inBlock, Exit.then]
          go_wp2_with fail
          exact ⟨⟨k + 1, by simp, by omega, ⟨x, HR1.out, fun h => absurd h (by omega), fun _ => HLA.out⟩, HBZ.out⟩, by simp only [intOf]; omega⟩
        have t2 : decide (0 < k) = true := by simp; omega
        have c9 := HPC.out (by omega); have hsub : IntKind.i64.wrap ((k : Int) - 1) = ((k - 1 : Nat) : Int) := by rw [IntWalk.i64_in _ (by omega)]; omega
        have hsub2 : (0 : Int) ≤ ((k - 1 : Nat) : Int) := by omega
        have hsub3 : ((k - 1 : Nat) : Int) < (n : Int) := by omega
        by_cases q3 : x ≤ la
        · have HR0 : Hid (R = false) := by show R = _; rw [HQ.out, decide_eq_false (show ¬ la < x by omega)]; simp
          have t3 : decide (x ≤ la) = true := by simpa using q3
          refine Free.wp_seq (I := fun w' => Below wr.heap.size wr w') (Gr := fun w1 w2 => Below w1.heap.size w1 w2) (by kernel_rfl) (by kernel_rfl) (Below.refl _ _).drew ?_; apply Free.sv; intro a w1 hI hp
          · have e1 := hp.sl 1; simp at e1; refine ⟨Free.wn, ?_⟩; clear hp; go_simp; rfl
          apply Free.sv; intro a w1 hI hp
          · have e50 := hp.b 0 0; have ka3 := (hI.cell (p := ⟨w.heap.size, 3, none⟩) hzw).trans a3; refine ⟨Free.wn, ?_⟩; clear hp; go_simp; rfl
          apply Free.sv; intro a w1 hI hp
          · have e3 := hp.sl 3; simp at e3; refine ⟨Free.wn, ?_⟩; clear hp; go_simp; rfl
          apply Free.sv; intro a w1 hI hp
          · have e51 := hp.b 1 1; have e52 := hp.b 2 0; refine ⟨Free.wn, ?_⟩; clear hp; go_simp; rfl
          apply Free.sv; intro a w1 hI hp
          · have e53 := hp.b 3 0; have kc0 := (hI.cell (p := ⟨b, off + k, none⟩) hbl).trans c0; refine ⟨Free.wn, ?_⟩; clear hp; go_simp; rfl
          apply Free.sv; intro a w1 hI hp
          · have e1 := hp.sl 1; simp at e1; refine ⟨Free.wn, ?_⟩; clear hp; go_simp; rfl
          apply Free.sv; intro a w1 hI hp
          · have e55 := hp.b 5 0; have ka2 := (hI.cell (p := ⟨w.heap.size, 2, none⟩) hzw).trans a2; refine ⟨Free.wn, ?_⟩; clear hp; go_simp; rfl
          apply Free.sv; intro a w1 hI hp
          · have e56 := hp.b 6 0; refine ⟨Free.wn, ?_⟩; clear hp; go_simp; rfl
          apply Free.sv; intro a w1 hI hp
          · have e54 := hp.b 4 3; have e57 := hp.b 7 0; refine ⟨Free.wn, ?_⟩; clear hp; go_simp; rfl
          apply Free.sv; intro a w1 hI hp
          · have e58 := hp.b 8 0; refine ⟨Free.wn, ?_⟩; clear hp; go_simp; rfl
          apply Free.sv; intro a w1 hI hp
          · have e59 := hp.b 9 0; have e1 := hp.sl 1; simp at e1; refine ⟨hp.wt e59, ?_⟩; clear hp; go_simp; rfl
          apply Free.sv; intro a w1 hI hp
          · have e59 := hp.b 9 1; have e60 := hp.b 10 0; have ka3 := (hI.cell (p := ⟨w.heap.size, 3, none⟩) hzw).trans a3; refine ⟨hp.wt e59, ?_⟩; clear hp; go_simp; rfl
          apply Free.sv; intro a w1 hI hp
          · have e59 := hp.b 9 2; have e3 := hp.sl 3; simp at e3; refine ⟨hp.wt e59, ?_⟩; clear hp; go_simp; rfl
          apply Free.sv; intro a w1 hI hp
          · have e59 := hp.b 9 3; have e61 := hp.b 11 1; have e62 := hp.b 12 0; refine ⟨hp.wt e59, ?_⟩; clear hp; go_simp; rfl
          apply Free.sv; intro a w1 hI hp
          · have e59 := hp.b 9 4; have e63 := hp.b 13 0; have kc0 := (hI.cell (p := ⟨b, off + k, none⟩) hbl).trans c0; refine ⟨hp.wt e59, ?_⟩; clear hp; go_simp; rfl
          apply Free.sv; intro a w1 hI hp
          · have e59 := hp.b 9 5; have e64 := hp.b 14 0; refine ⟨hp.wt e59, ?_⟩; clear hp; go_simp; rfl
          apply Free.sv; intro a w1 hI hp
          · have e59 := hp.b 9 6; have e65 := hp.b 15 0; refine ⟨Free.wn, ?_⟩; clear hp; go_simp; rfl
          apply Free.sv; intro a w1 hI hp
          · have e66 := hp.b 16 0; refine ⟨Free.wn, ?_⟩; clear hp; go_simp; rfl
          apply Free.sv; intro a w1 hI hp
          · have e67 := hp.b 17 0; have e3 := hp.sl 3; simp at e3; refine ⟨hp.wt e67, ?_⟩; clear hp; go_simp; rfl
          apply Free.sv; intro a w1 hI hp
          · have e67 := hp.b 17 1; have e68 := hp.b 18 0; refine ⟨hp.wt e67, ?_⟩; clear hp; go_simp; rfl
          apply Free.sv; intro a w1 hI hp
          · have e67 := hp.b 17 2; have e69 := hp.b 19 0; refine ⟨hp.wt e67, ?_⟩; clear hp; go_simp; rfl
          apply Free.sv; intro a w1 hI hp
          · have e70 := hp.b 20 0; have e1 := hp.sl 1; simp at e1; refine ⟨hp.wt e70, ?_⟩; clear hp; go_simp; rfl
          apply Free.sv; intro a w1 hI hp
          · have e70 := hp.b 20 1; have e71 := hp.b 21 0; have ka3 := (hI.cell (p := ⟨w.heap.size, 3, none⟩) hzw).trans a3; refine ⟨hp.wt e70, ?_⟩; clear hp; go_simp; rfl
          apply Free.sv; intro a w1 hI hp
          · have e70 := hp.b 20 2; have e3 := hp.sl 3; simp at e3; refine ⟨hp.wt e70, ?_⟩; clear hp; go_simp; rfl
          apply Free.sv; intro a w1 hI hp
          · have e70 := hp.b 20 3; have e72 := hp.b 22 1; have e73 := hp.b 23 0; refine ⟨hp.wt e70, ?_⟩; clear hp; go_simp; rfl
          apply Free.sv; intro a w1 hI hp
          · have e70 := hp.b 20 4; have e74 := hp.b 24 0; have kc0 := (hI.cell (p := ⟨b, off + k, none⟩) hbl).trans c0; refine ⟨hp.wt e70, ?_⟩; clear hp; go_simp; rfl
          apply Free.sv; intro a w1 hI hp
          · have e70 := hp.b 20 5; have e1 := hp.sl 1; simp at e1; refine ⟨hp.wt e70, ?_⟩; clear hp; go_simp; rfl
          apply Free.sv; intro a w1 hI hp
          · have e70 := hp.b 20 6; have e76 := hp.b 26 0; have ka3 := (hI.cell (p := ⟨w.heap.size, 3, none⟩) hzw).trans a3; refine ⟨hp.wt e70, ?_⟩; clear hp; go_simp; rfl
          apply Free.sv; intro a w1 hI hp
          · have e70 := hp.b 20 7; have e3 := hp.sl 3; simp at e3; refine ⟨hp.wt e70, ?_⟩; clear hp; go_simp; rfl
          apply Free.sv; intro a w1 hI hp
          · have e70 := hp.b 20 8; have e78 := hp.b 28 0; refine ⟨hp.wt e70, ?_⟩; clear hp; go_simp; rfl
          apply Free.sv; intro a w1 hI hp
          · have e70 := hp.b 20 9; have e77 := hp.b 27 2; have e79 := hp.b 29 0; refine ⟨hp.wt e70, ?_⟩; clear hp; go_simp; rfl
          apply Free.sv; intro a w1 hI hp
          · have e70 := hp.b 20 10; have e80 := hp.b 30 0; have kc9 := (hI.cell (p := ⟨b, off + (k - 1), none⟩) hbl).trans c9; refine ⟨hp.wt e70, ?_⟩; clear hp; go_simp; rfl
          apply Free.sv; intro a w1 hI hp
          · have e70 := hp.b 20 11; have e75 := hp.b 25 6; have e81 := hp.b 31 0; refine ⟨hp.wt e70, ?_⟩; clear hp; go_simp; rfl
          apply Free.sv; intro a w1 hI hp
          · have e67 := hp.b 17 15; have e70 := hp.b 20 12; have e82 := hp.b 32 0; refine ⟨hp.wt e67, ?_⟩; clear hp; go_simp; rfl
          apply Free.sv; intro a w1 hI hp
          · have e67 := hp.b 17 16; have e83 := hp.b 33 0; refine ⟨Free.wn, ?_⟩; clear hp; go_simp; rfl
          refine Free.Seq.done (by simp) (fun wz hIz => ?_); simp only [List.reverse_cons, List.reverse_nil, List.nil_append, List.cons_append, Free.All, Free.eqF, forall_eq]
          skip
          simp only [Free.putL, Act.put, List.setIfInBounds_toArray, List.set_cons_zero, List.set_cons_succ]; have HBZ := Lib.hid (HBr.out.trans (hIz.mono (by omega))); clear hIz
          dsimp only [Exit.inBlock, Exit.then]
          go_wp2_with fail
          go_ret
          exact ⟨ret_bool (by rw [HR0.out]), HBZ.out⟩
        · have hr : R = moreB x (m.drop (k + 1)) := by
            rw [HQ.out, decide_eq_true (show la < x by omega), decide_eq_true (show x ≤ 65535 by omega)]; simp
          have HR1 := Lib.hid hr; have t3 : decide (x ≤ la) = false := by simpa using q3
          clear hr; refine Free.wp_seq (I := fun w' => Below wr.heap.size wr w') (Gr := fun w1 w2 => Below w1.heap.size w1 w2) (by kernel_rfl) (by kernel_rfl) (Below.refl _ _).drew ?_; apply Free.sv; intro a w1 hI hp
          · have e1 := hp.sl 1; simp at e1; refine ⟨Free.wn, ?_⟩; clear hp; go_simp; rfl
          apply Free.sv; intro a w1 hI hp
          · have e50 := hp.b 0 0; have ka3 := (hI.cell (p := ⟨w.heap.size, 3, none⟩) hzw).trans a3; refine ⟨Free.wn, ?_⟩; clear hp; go_simp; rfl
          apply Free.sv; intro a w1 hI hp
          · have e3 := hp.sl 3; simp at e3; refine ⟨Free.wn, ?_⟩; clear hp; go_simp; rfl
          apply Free.sv; intro a w1 hI hp
          · have e51 := hp.b 1 1; have e52 := hp.b 2 0; refine ⟨Free.wn, ?_⟩; clear hp; go_simp; rfl
          apply Free.sv; intro a w1 hI hp
          · have e53 := hp.b 3 0; have kc0 := (hI.cell (p := ⟨b, off + k, none⟩) hbl).trans c0; refine ⟨Free.wn, ?_⟩; clear hp; go_simp; rfl
          apply Free.sv; intro a w1 hI hp
          · have e1 := hp.sl 1; simp at e1; refine ⟨Free.wn, ?_⟩; clear hp; go_simp; rfl
          apply Free.sv; intro a w1 hI hp
          · have e55 := hp.b 5 0; have ka2 := (hI.cell (p := ⟨w.heap.size, 2, none⟩) hzw).trans a2; refine ⟨Free.wn, ?_⟩; clear hp; go_simp; rfl
          apply Free.sv; intro a w1 hI hp
          · have e56 := hp.b 6 0; refine ⟨Free.wn, ?_⟩; clear hp; go_simp; rfl
          apply Free.sv; intro a w1 hI hp
          · have e54 := hp.b 4 3; have e57 := hp.b 7 0; refine ⟨Free.wn, ?_⟩; clear hp; go_simp; rfl
          apply Free.sv; intro a w1 hI hp
          · have e58 := hp.b 8 0; refine ⟨Free.wn, ?_⟩; clear hp; go_simp; rfl
          apply Free.sv; intro a w1 hI hp
          · have e59 := hp.b 9 0; have e1 := hp.sl 1; simp at e1; refine ⟨hp.wt e59, ?_⟩; clear hp; go_simp; rfl
          apply Free.sv; intro a w1 hI hp
          · have e59 := hp.b 9 1; have e60 := hp.b 10 0; have ka3 := (hI.cell (p := ⟨w.heap.size, 3, none⟩) hzw).trans a3; refine ⟨hp.wt e59, ?_⟩; clear hp; go_simp; rfl
          apply Free.sv; intro a w1 hI hp
          · have e59 := hp.b 9 2; have e3 := hp.sl 3; simp at e3; refine ⟨hp.wt e59, ?_⟩; clear hp; go_simp; rfl
          apply Free.sv; intro a w1 hI hp
          · have e59 := hp.b 9 3; have e61 := hp.b 11 1; have e62 := hp.b 12 0; refine ⟨hp.wt e59, ?_⟩; clear hp; go_simp; rfl
          apply Free.sv; intro a w1 hI hp
          · have e59 := hp.b 9 4; have e63 := hp.b 13 0; have kc0 := (hI.cell (p := ⟨b, off + k, none⟩) hbl).trans c0; refine ⟨hp.wt e59, ?_⟩; clear hp; go_simp; rfl
          apply Free.sv; intro a w1 hI hp
          · have e59 := hp.b 9 5; have e64 := hp.b 14 0; refine ⟨hp.wt e59, ?_⟩; clear hp; go_simp; rfl
          apply Free.sv; intro a w1 hI hp
          · have e59 := hp.b 9 6; have e65 := hp.b 15 0; refine ⟨Free.wn, ?_⟩; clear hp; go_simp; rfl
          apply Free.sv; intro a w1 hI hp
          · have e66 := hp.b 16 0; refine ⟨Free.wn, ?_⟩; clear hp; go_simp; rfl
          apply Free.sv; intro a w1 hI hp
          · have e67 := hp.b 17 0; have e3 := hp.sl 3; simp at e3; refine ⟨hp.wt e67, ?_⟩; clear hp; go_simp; rfl
          apply Free.sv; intro a w1 hI hp
          · have e67 := hp.b 17 1; have e68 := hp.b 18 0; refine ⟨hp.wt e67, ?_⟩; clear hp; go_simp; rfl
          apply Free.sv; intro a w1 hI hp
          · have e67 := hp.b 17 2; have e69 := hp.b 19 0; refine ⟨hp.wt e67, ?_⟩; clear hp; go_simp; rfl
          apply Free.sv; intro a w1 hI hp
          · have e70 := hp.b 20 0; have e1 := hp.sl 1; simp at e1; refine ⟨hp.wt e70, ?_⟩; clear hp; go_simp; rfl
          apply Free.sv; intro a w1 hI hp
          · have e70 := hp.b 20 1; have e71 := hp.b 21 0; have ka3 := (hI.cell (p := ⟨w.heap.size, 3, none⟩) hzw).trans a3; refine ⟨hp.wt e70, ?_⟩; clear hp; go_simp; rfl
          apply Free.sv; intro a w1 hI hp
          · have e70 := hp.b 20 2; have e3 := hp.sl 3; simp at e3; refine ⟨hp.wt e70, ?_⟩; clear hp; go_simp; rfl
          apply Free.sv; intro a w1 hI hp
          · have e70 := hp.b 20 3; have e72 := hp.b 22 1; have e73 := hp.b 23 0; refine ⟨hp.wt e70, ?_⟩; clear hp; go_simp; rfl
          apply Free.sv; intro a w1 hI hp
          · have e70 := hp.b 20 4; have e74 := hp.b 24 0; have kc0 := (hI.cell (p := ⟨b, off + k, none⟩) hbl).trans c0; refine ⟨hp.wt e70, ?_⟩; clear hp; go_simp; rfl
          apply Free.sv; intro a w1 hI hp
          · have e70 := hp.b 20 5; have e1 := hp.sl 1; simp at e1; refine ⟨hp.wt e70, ?_⟩; clear hp; go_simp; rfl
          apply Free.sv; intro a w1 hI hp
          · have e70 := hp.b 20 6; have e76 := hp.b 26 0; have ka3 := (hI.cell (p := ⟨w.heap.size, 3, none⟩) hzw).trans a3; refine ⟨hp.wt e70, ?_⟩; clear hp; go_simp; rfl
          apply Free.sv; intro a w1 hI hp
          · have e70 := hp.b 20 7; have e3 := hp.sl 3; simp at e3; refine ⟨hp.wt e70, ?_⟩; clear hp; go_simp; rfl
          apply Free.sv; intro a w1 hI hp
          · have e70 := hp.b 20 8; have e78 := hp.b 28 0; refine ⟨hp.wt e70, ?_⟩; clear hp; go_simp; rfl
          apply Free.sv; intro a w1 hI hp
          · have e70 := hp.b 20 9; have e77 := hp.b 27 2; have e79 := hp.b 29 0; refine ⟨hp.wt e70, ?_⟩; clear hp; go_simp; rfl
          apply Free.sv; intro a w1 hI hp
          · have e70 := hp.b 20 10; have e80 := hp.b 30 0; have kc9 := (hI.cell (p := ⟨b, off + (k - 1), none⟩) hbl).trans c9; refine ⟨hp.wt e70, ?_⟩; clear hp; go_simp; rfl
          apply Free.sv; intro a w1 hI hp
          · have e70 := hp.b 20 11; have e75 := hp.b 25 6; have e81 := hp.b 31 0; refine ⟨hp.wt e70, ?_⟩; clear hp; go_simp; rfl
          apply Free.sv; intro a w1 hI hp
          · have e67 := hp.b 17 15; have e70 := hp.b 20 12; have e82 := hp.b 32 0; refine ⟨hp.wt e67, ?_⟩; clear hp; go_simp; rfl
          apply Free.sv; intro a w1 hI hp
          · have e67 := hp.b 17 16; have e83 := hp.b 33 0; refine ⟨Free.wn, ?_⟩; clear hp; go_simp; rfl
          refine Free.Seq.done (by simp) (fun wz hIz => ?_); simp only [List.reverse_cons, List.reverse_nil, List.nil_append, List.cons_append, Free.All, Free.eqF, forall_eq]
          skip
          simp only [Free.putL, Act.put, List.setIfInBounds_toArray, List.set_cons_zero, List.set_cons_succ]; have HBZ := Lib.hid (HBW.out.trans (hIz.mono hzr)); have HLA : Hid (u + 2 ≤ x ∧ m[k + 1 - 1]? = some x) := ⟨by omega, HX.out⟩; clear hIz
          dsimp only [Exit.inBlock, Exit.then]
          go_wp2_with fail
          exact ⟨⟨k + 1, by simp, by omega, ⟨x, HR1.out, fun h => absurd h (by omega), fun _ => HLA.out⟩, HBZ.out⟩, by simp only [intOf]; omega⟩
      · have hkn : k = n := by omega
        subst hkn; have HR1 : Hid (R = true) := by show R = true; rw [HQ.out, List.drop_of_length_le (by rw [HL.out]; exact Nat.le_refl _), moreB]
        go_wp2_with fail
        go_ret
        exact ⟨ret_bool (by rw [HR1.out]), HBr.out⟩
  · have z0 : (u == 0) = false := by simpa using hz
    clear hz
    go_enter Try.func72, Try.ntmps72
    go_wp2_with fail
    obtain ⟨W, hW⟩ : ∃ W, W = w.alloc (.cells #[.int .i64 o, .int .i64 e, .int .i64 u, .slice A n c] 58) := ⟨_, rfl⟩; rw [← hW]; have hz : w.heap.size < W.heap.size := by rw [hW]; simp
    have a2 : W.cell? ⟨w.heap.size, 2, none⟩ = some (.int .i64 u) := by rw [hW]; exact World.cell?_alloc_mark w _ _ _ 2
    have a3 : W.cell? ⟨w.heap.size, 3, none⟩ = some (.slice A n c) := by rw [hW]; exact World.cell?_alloc_mark w _ _ _ 3
    have HB : Hid (Below w.heap.size w W) := by show Below _ _ _; rw [hW]; exact (Below.refl _ _).alloc (Nat.le_refl _) _
    clear hW o0 o1 e2 e3 u2 u3 z0
    go_loopw [3] (fun i wr => ∃ k : Nat, i = .int .i64 k ∧ k ≤ n ∧ Hid ((∃ la, R = moreB la (m.drop k) ∧ (k = 0 → la = u + 1) ∧ (0 < k → u + 2 ≤ la ∧ m[k - 1]? = some la)) ∧ Below W.heap.size W wr)) (fun i _ => n - (intOf i).toNat)
    case atStart => exact ⟨0, rfl, Nat.zero_le _, ⟨u + 1, H0.out, fun _ => rfl, fun h => absurd h (by omega)⟩, Below.refl _ _⟩
    case round =>
      obtain ⟨k, rfl, hk, ⟨la, hq, hl0, hl1⟩, hb⟩ := hrel; have HQ := Lib.hid hq; have HL0 := Lib.hid hl0; have HL1 := Lib.hid hl1; have HBW := Lib.hid hb; have hzr := hb.size; have HBr := Lib.hid (HB.out.trans (hb.mono (by omega))); have a2 := (hb.cell (p := ⟨w.heap.size, 2, none⟩) hz).trans a2; have a3 := (hb.cell (p := ⟨w.heap.size, 3, none⟩) hz).trans a3; have hzw : w.heap.size < wr.heap.size := by omega
      clear hq hl0 hl1 hb
      by_cases hlt : k < n
      · obtain ⟨b, off, x, cs, rfl, hBb, hbl, hx, hcs, hlen, hcell⟩ := (HN.out.below keeps_int HBr.out).at' hlt; unfold EInt at hcs; subst hcs; have c0 := hcell 0 _ rfl; rw [Nat.mul_one, Nat.add_zero] at c0; have hpc : 0 < k → wr.cell? ⟨b, off + (k - 1), none⟩ = some (.int .i64 la) := fun h0 => by
          obtain ⟨b', off', y, cs', hbo, _, _, hy, hcs', _, hcell'⟩ := (HN.out.below keeps_int HBr.out).at' (show k - 1 < n by omega); unfold EInt at hcs'; subst hcs'; injection hbo with hbo
          injection hbo with hb1 hb2
          subst hb1 hb2; have d0 := hcell' 0 _ rfl; rw [Nat.mul_one, Nat.add_zero] at d0; have := (HL1.out h0).2; rw [hy] at this; injection this with this
          rwa [this] at d0
        have HPC := Lib.hid hpc; rw [moreB_drop hx] at HQ; have HX := Lib.hid hx; have hkb : k < 281474976710656 := by omega
        have hadd : IntKind.i64.wrap (u + 2) = u + 2 := IntWalk.i64_in _ (by omega); clear hcell hlen hx hpc
        go_wp2_with fail
        by_cases q0 : x < u + 2
        · have HR0 : Hid (R = false) := by
            show R = _
            rw [HQ.out, decide_eq_false (show ¬ la < x from fun h => by
              rcases Nat.eq_zero_or_pos k with h0 | h0
              · have := HL0.out h0; omega
              · have := (HL1.out h0).1; omega)]
            simp
          have t0 : decide (x < u + 2) = true := by simpa using q0
          refine Free.wp_seq (I := fun w' => Below wr.heap.size wr w') (Gr := fun w1 w2 => Below w1.heap.size w1 w2) (by kernel_rfl) (by kernel_rfl) (Below.refl _ _).drew ?_; apply Free.sv; intro a w1 hI hp
          · have e1 := hp.sl 1; simp at e1; refine ⟨Free.wn, ?_⟩; clear hp; go_simp; rfl
          apply Free.sv; intro a w1 hI hp
          · have e50 := hp.b 0 0; have ka3 := (hI.cell (p := ⟨w.heap.size, 3, none⟩) hzw).trans a3; refine ⟨Free.wn, ?_⟩; clear hp; go_simp; rfl
          apply Free.sv; intro a w1 hI hp
          · have e3 := hp.sl 3; simp at e3; refine ⟨Free.wn, ?_⟩; clear hp; go_simp; rfl
          apply Free.sv; intro a w1 hI hp
          · have e51 := hp.b 1 1; have e52 := hp.b 2 0; refine ⟨Free.wn, ?_⟩; clear hp; go_simp; rfl
          apply Free.sv; intro a w1 hI hp
          · have e53 := hp.b 3 0; have kc0 := (hI.cell (p := ⟨b, off + k, none⟩) hbl).trans c0; refine ⟨Free.wn, ?_⟩; clear hp; go_simp; rfl
          apply Free.sv; intro a w1 hI hp
          · have e1 := hp.sl 1; simp at e1; refine ⟨Free.wn, ?_⟩; clear hp; go_simp; rfl
          apply Free.sv; intro a w1 hI hp
          · have e55 := hp.b 5 0; have ka2 := (hI.cell (p := ⟨w.heap.size, 2, none⟩) hzw).trans a2; refine ⟨Free.wn, ?_⟩; clear hp; go_simp; rfl
          apply Free.sv; intro a w1 hI hp
          · have e56 := hp.b 6 0; refine ⟨Free.wn, ?_⟩; clear hp; go_simp; rfl
          apply Free.sv; intro a w1 hI hp
          · have e54 := hp.b 4 3; have e57 := hp.b 7 0; refine ⟨Free.wn, ?_⟩; clear hp; go_simp; rfl
          apply Free.sv; intro a w1 hI hp
          · have e58 := hp.b 8 0; refine ⟨Free.wn, ?_⟩; clear hp; go_simp; rfl
          refine Free.sp 9 0 ?_; refine Free.sp 9 1 ?_; refine Free.sp 9 2 ?_; refine Free.sp 9 3 ?_; refine Free.sp 9 4 ?_; refine Free.sp 9 5 ?_; apply Free.sv; intro a w1 hI hp
          · have e59 := hp.b 9 6; have e65 := hp.b 15 0; refine ⟨Free.wn, ?_⟩; clear hp; go_simp; rfl
          apply Free.sv; intro a w1 hI hp
          · have e66 := hp.b 16 0; refine ⟨Free.wn, ?_⟩; clear hp; go_simp; rfl
          refine Free.sp 17 0 ?_; refine Free.sp 17 1 ?_; refine Free.sp 17 2 ?_; refine Free.Seq.pass (fun a w1 hI hp => hp.passU rfl rfl rfl (hp.b 20 0)) ?_; refine Free.Seq.pass (fun a w1 hI hp => hp.passU rfl rfl rfl (hp.b 20 1)) ?_; refine Free.Seq.pass (fun a w1 hI hp => hp.passU rfl rfl rfl (hp.b 20 2)) ?_; refine Free.Seq.pass (fun a w1 hI hp => hp.passU rfl rfl rfl (hp.b 20 3)) ?_; refine Free.Seq.pass (fun a w1 hI hp => hp.passU rfl rfl rfl (hp.b 20 4)) ?_; refine Free.Seq.pass (fun a w1 hI hp => hp.passU rfl rfl rfl (hp.b 20 5)) ?_; refine Free.Seq.pass (fun a w1 hI hp => hp.passU rfl rfl rfl (hp.b 20 6)) ?_; refine Free.Seq.pass (fun a w1 hI hp => hp.passU rfl rfl rfl (hp.b 20 7)) ?_; refine Free.Seq.pass (fun a w1 hI hp => hp.passU rfl rfl rfl (hp.b 20 8)) ?_; refine Free.Seq.pass (fun a w1 hI hp => hp.passU rfl rfl rfl (hp.b 20 9)) ?_; refine Free.Seq.pass (fun a w1 hI hp => hp.passU rfl rfl rfl (hp.b 20 10)) ?_; refine Free.Seq.pass (fun a w1 hI hp => hp.passU rfl rfl rfl (hp.b 20 11)) ?_; refine Free.sp 17 15 ?_; apply Free.sv; intro a w1 hI hp
          · have e67 := hp.b 17 16; have e83 := hp.b 33 0; refine ⟨Free.wn, ?_⟩; clear hp; go_simp; rfl
          refine Free.Seq.done (by simp) (fun wz hIz => ?_); simp only [List.reverse_cons, List.reverse_nil, List.nil_append, List.cons_append, Free.All, Free.eqF, forall_eq]
          skip
          simp only [Free.putL, Act.put, List.setIfInBounds_toArray, List.set_cons_zero, List.set_cons_succ]; have HBZ := Lib.hid (HBr.out.trans (hIz.mono (by omega))); clear hIz
          dsimp only [Exit.inBlock, Exit.then]
          go_wp2_with fail
          go_ret
          exact ⟨ret_bool (by rw [HR0.out]), HBZ.out⟩
        have t0 : decide (x < u + 2) = false := by simpa using q0
        by_cases q1 : 65535 < x
        · have HR0 : Hid (R = false) := by show R = _; rw [HQ.out, decide_eq_false (show ¬ x ≤ 65535 by omega)]; simp
          have t1 : decide (65535 < x) = true := by simpa using q1
          refine Free.wp_seq (I := fun w' => Below wr.heap.size wr w') (Gr := fun w1 w2 => Below w1.heap.size w1 w2) (by kernel_rfl) (by kernel_rfl) (Below.refl _ _).drew ?_; apply Free.sv; intro a w1 hI hp
          · have e1 := hp.sl 1; simp at e1; refine ⟨Free.wn, ?_⟩; clear hp; go_simp; rfl
          apply Free.sv; intro a w1 hI hp
          · have e50 := hp.b 0 0; have ka3 := (hI.cell (p := ⟨w.heap.size, 3, none⟩) hzw).trans a3; refine ⟨Free.wn, ?_⟩; clear hp; go_simp; rfl
          apply Free.sv; intro a w1 hI hp
          · have e3 := hp.sl 3; simp at e3; refine ⟨Free.wn, ?_⟩; clear hp; go_simp; rfl
          apply Free.sv; intro a w1 hI hp
          · have e51 := hp.b 1 1; have e52 := hp.b 2 0; refine ⟨Free.wn, ?_⟩; clear hp; go_simp; rfl
          apply Free.sv; intro a w1 hI hp
          · have e53 := hp.b 3 0; have kc0 := (hI.cell (p := ⟨b, off + k, none⟩) hbl).trans c0; refine ⟨Free.wn, ?_⟩; clear hp; go_simp; rfl
          apply Free.sv; intro a w1 hI hp
          · have e1 := hp.sl 1; simp at e1; refine ⟨Free.wn, ?_⟩; clear hp; go_simp; rfl
          apply Free.sv; intro a w1 hI hp
          · have e55 := hp.b 5 0; have ka2 := (hI.cell (p := ⟨w.heap.size, 2, none⟩) hzw).trans a2; refine ⟨Free.wn, ?_⟩; clear hp; go_simp; rfl
          apply Free.sv; intro a w1 hI hp
          · have e56 := hp.b 6 0; refine ⟨Free.wn, ?_⟩; clear hp; go_simp; rfl
          apply Free.sv; intro a w1 hI hp
          · have e54 := hp.b 4 3; have e57 := hp.b 7 0; refine ⟨Free.wn, ?_⟩; clear hp; go_simp; rfl
          apply Free.sv; intro a w1 hI hp
          · have e58 := hp.b 8 0; refine ⟨Free.wn, ?_⟩; clear hp; go_simp; rfl
          apply Free.sv; intro a w1 hI hp
          · have e59 := hp.b 9 0; have e1 := hp.sl 1; simp at e1; refine ⟨hp.wt e59, ?_⟩; clear hp; go_simp; rfl
          apply Free.sv; intro a w1 hI hp
          · have e59 := hp.b 9 1; have e60 := hp.b 10 0; have ka3 := (hI.cell (p := ⟨w.heap.size, 3, none⟩) hzw).trans a3; refine ⟨hp.wt e59, ?_⟩; clear hp; go_simp; rfl
          apply Free.sv; intro a w1 hI hp
          · have e59 := hp.b 9 2; have e3 := hp.sl 3; simp at e3; refine ⟨hp.wt e59, ?_⟩; clear hp; go_simp; rfl
          apply Free.sv; intro a w1 hI hp
          · have e59 := hp.b 9 3; have e61 := hp.b 11 1; have e62 := hp.b 12 0; refine ⟨hp.wt e59, ?_⟩; clear hp; go_simp; rfl
          apply Free.sv; intro a w1 hI hp
          · have e59 := hp.b 9 4; have e63 := hp.b 13 0; have kc0 := (hI.cell (p := ⟨b, off + k, none⟩) hbl).trans c0; refine ⟨hp.wt e59, ?_⟩; clear hp; go_simp; rfl
          apply Free.sv; intro a w1 hI hp
          · have e59 := hp.b 9 5; have e64 := hp.b 14 0; refine ⟨hp.wt e59, ?_⟩; clear hp; go_simp; rfl
          apply Free.sv; intro a w1 hI hp
          · have e59 := hp.b 9 6; have e65 := hp.b 15 0; refine ⟨Free.wn, ?_⟩; clear hp; go_simp; rfl
          apply Free.sv; intro a w1 hI hp
          · have e66 := hp.b 16 0; refine ⟨Free.wn, ?_⟩; clear hp; go_simp; rfl
          refine Free.sp 17 0 ?_; refine Free.sp 17 1 ?_; refine Free.sp 17 2 ?_; refine Free.Seq.pass (fun a w1 hI hp => hp.passU rfl rfl rfl (hp.b 20 0)) ?_; refine Free.Seq.pass (fun a w1 hI hp => hp.passU rfl rfl rfl (hp.b 20 1)) ?_; refine Free.Seq.pass (fun a w1 hI hp => hp.passU rfl rfl rfl (hp.b 20 2)) ?_; refine Free.Seq.pass (fun a w1 hI hp => hp.passU rfl rfl rfl (hp.b 20 3)) ?_; refine Free.Seq.pass (fun a w1 hI hp => hp.passU rfl rfl rfl (hp.b 20 4)) ?_; refine Free.Seq.pass (fun a w1 hI hp => hp.passU rfl rfl rfl (hp.b 20 5)) ?_; refine Free.Seq.pass (fun a w1 hI hp => hp.passU rfl rfl rfl (hp.b 20 6)) ?_; refine Free.Seq.pass (fun a w1 hI hp => hp.passU rfl rfl rfl (hp.b 20 7)) ?_; refine Free.Seq.pass (fun a w1 hI hp => hp.passU rfl rfl rfl (hp.b 20 8)) ?_; refine Free.Seq.pass (fun a w1 hI hp => hp.passU rfl rfl rfl (hp.b 20 9)) ?_; refine Free.Seq.pass (fun a w1 hI hp => hp.passU rfl rfl rfl (hp.b 20 10)) ?_; refine Free.Seq.pass (fun a w1 hI hp => hp.passU rfl rfl rfl (hp.b 20 11)) ?_; refine Free.sp 17 15 ?_; apply Free.sv; intro a w1 hI hp
          · have e67 := hp.b 17 16; have e83 := hp.b 33 0; refine ⟨Free.wn, ?_⟩; clear hp; go_simp; rfl
          refine Free.Seq.done (by simp) (fun wz hIz => ?_); simp only [List.reverse_cons, List.reverse_nil, List.nil_append, List.cons_append, Free.All, Free.eqF, forall_eq]
          skip
          simp only [Free.putL, Act.put, List.setIfInBounds_toArray, List.set_cons_zero, List.set_cons_succ]; have HBZ := Lib.hid (HBr.out.trans (hIz.mono (by omega))); clear hIz
          dsimp only [Exit.inBlock, Exit.then]
          go_wp2_with fail
          go_ret
          exact ⟨ret_bool (by rw [HR0.out]), HBZ.out⟩
        have t1 : decide (65535 < x) = false := by simpa using q1
        by_cases q2 : k = 0
        · have hr : R = moreB x (m.drop (k + 1)) := by
            rw [HQ.out, decide_eq_true (show la < x by have := HL0.out q2; omega), decide_eq_true (show x ≤ 65535 by omega)]; simp
          have HR1 := Lib.hid hr; have t2 : decide (0 < k) = false := by simp; omega
          clear hr q2; refine Free.wp_seq (I := fun w' => Below wr.heap.size wr w') (Gr := fun w1 w2 => Below w1.heap.size w1 w2) (by kernel_rfl) (by kernel_rfl) (Below.refl _ _).drew ?_; apply Free.sv; intro a w1 hI hp
          · have e1 := hp.sl 1; simp at e1; refine ⟨Free.wn, ?_⟩; clear hp; go_simp; rfl
          apply Free.sv; intro a w1 hI hp
          · have e50 := hp.b 0 0; have ka3 := (hI.cell (p := ⟨w.heap.size, 3, none⟩) hzw).trans a3; refine ⟨Free.wn, ?_⟩; clear hp; go_simp; rfl
          apply Free.sv; intro a w1 hI hp
          · have e3 := hp.sl 3; simp at e3; refine ⟨Free.wn, ?_⟩; clear hp; go_simp; rfl
          apply Free.sv; intro a w1 hI hp
          · have e51 := hp.b 1 1; have e52 := hp.b 2 0; refine ⟨Free.wn, ?_⟩; clear hp; go_simp; rfl
          apply Free.sv; intro a w1 hI hp
          · have e53 := hp.b 3 0; have kc0 := (hI.cell (p := ⟨b, off + k, none⟩) hbl).trans c0; refine ⟨Free.wn, ?_⟩; clear hp; go_simp; rfl
          apply Free.sv; intro a w1 hI hp
          · have e1 := hp.sl 1; simp at e1; refine ⟨Free.wn, ?_⟩; clear hp; go_simp; rfl
          apply Free.sv; intro a w1 hI hp
          · have e55 := hp.b 5 0; have ka2 := (hI.cell (p := ⟨w.heap.size, 2, none⟩) hzw).trans a2; refine ⟨Free.wn, ?_⟩; clear hp; go_simp; rfl
          apply Free.sv; intro a w1 hI hp
          · have e56 := hp.b 6 0; refine ⟨Free.wn, ?_⟩; clear hp; go_simp; rfl
          apply Free.sv; intro a w1 hI hp
          · have e54 := hp.b 4 3; have e57 := hp.b 7 0; refine ⟨Free.wn, ?_⟩; clear hp; go_simp; rfl
          apply Free.sv; intro a w1 hI hp
          · have e58 := hp.b 8 0; refine ⟨Free.wn, ?_⟩; clear hp; go_simp; rfl
          apply Free.sv; intro a w1 hI hp
          · have e59 := hp.b 9 0; have e1 := hp.sl 1; simp at e1; refine ⟨hp.wt e59, ?_⟩; clear hp; go_simp; rfl
          apply Free.sv; intro a w1 hI hp
          · have e59 := hp.b 9 1; have e60 := hp.b 10 0; have ka3 := (hI.cell (p := ⟨w.heap.size, 3, none⟩) hzw).trans a3; refine ⟨hp.wt e59, ?_⟩; clear hp; go_simp; rfl
          apply Free.sv; intro a w1 hI hp
          · have e59 := hp.b 9 2; have e3 := hp.sl 3; simp at e3; refine ⟨hp.wt e59, ?_⟩; clear hp; go_simp; rfl
          apply Free.sv; intro a w1 hI hp
          · have e59 := hp.b 9 3; have e61 := hp.b 11 1; have e62 := hp.b 12 0; refine ⟨hp.wt e59, ?_⟩; clear hp; go_simp; rfl
          apply Free.sv; intro a w1 hI hp
          · have e59 := hp.b 9 4; have e63 := hp.b 13 0; have kc0 := (hI.cell (p := ⟨b, off + k, none⟩) hbl).trans c0; refine ⟨hp.wt e59, ?_⟩; clear hp; go_simp; rfl
          apply Free.sv; intro a w1 hI hp
          · have e59 := hp.b 9 5; have e64 := hp.b 14 0; refine ⟨hp.wt e59, ?_⟩; clear hp; go_simp; rfl
          apply Free.sv; intro a w1 hI hp
          · have e59 := hp.b 9 6; have e65 := hp.b 15 0; refine ⟨Free.wn, ?_⟩; clear hp; go_simp; rfl
          apply Free.sv; intro a w1 hI hp
          · have e66 := hp.b 16 0; refine ⟨Free.wn, ?_⟩; clear hp; go_simp; rfl
          apply Free.sv; intro a w1 hI hp
          · have e67 := hp.b 17 0; have e3 := hp.sl 3; simp at e3; refine ⟨hp.wt e67, ?_⟩; clear hp; go_simp; rfl
          apply Free.sv; intro a w1 hI hp
          · have e67 := hp.b 17 1; have e68 := hp.b 18 0; refine ⟨hp.wt e67, ?_⟩; clear hp; go_simp; rfl
          apply Free.sv; intro a w1 hI hp
          · have e67 := hp.b 17 2; have e69 := hp.b 19 0; refine ⟨hp.wt e67, ?_⟩; clear hp; go_simp; rfl
          refine Free.sp 20 0 ?_; refine Free.sp 20 1 ?_; refine Free.sp 20 2 ?_; refine Free.sp 20 3 ?_; refine Free.sp 20 4 ?_; refine Free.sp 20 5 ?_; refine Free.sp 20 6 ?_; refine Free.sp 20 7 ?_; refine Free.sp 20 8 ?_; refine Free.sp 20 9 ?_; refine Free.sp 20 10 ?_; refine Free.sp 20 11 ?_; apply Free.sv; intro a w1 hI hp
          · have e67 := hp.b 17 15; have e70 := hp.b 20 12; have e82 := hp.b 32 0; refine ⟨hp.wt e67, ?_⟩; clear hp; go_simp; rfl
          apply Free.sv; intro a w1 hI hp
          · have e67 := hp.b 17 16; have e83 := hp.b 33 0; refine ⟨Free.wn, ?_⟩; clear hp; go_simp; rfl
          refine Free.Seq.done (by simp) (fun wz hIz => ?_); simp only [List.reverse_cons, List.reverse_nil, List.nil_append, List.cons_append, Free.All, Free.eqF, forall_eq]
          skip
          simp only [Free.putL, Act.put, List.setIfInBounds_toArray, List.set_cons_zero, List.set_cons_succ]; have HBZ := Lib.hid (HBW.out.trans (hIz.mono hzr)); have HLA : Hid (u + 2 ≤ x ∧ m[k + 1 - 1]? = some x) := ⟨by omega, HX.out⟩; clear hIz
          dsimp only [Exit.inBlock, Exit.then]
          go_wp2_with fail
          exact ⟨⟨k + 1, by simp, by omega, ⟨x, HR1.out, fun h => absurd h (by omega), fun _ => HLA.out⟩, HBZ.out⟩, by simp only [intOf]; omega⟩
        have t2 : decide (0 < k) = true := by simp; omega
        have c9 := HPC.out (by omega); have hsub : IntKind.i64.wrap ((k : Int) - 1) = ((k - 1 : Nat) : Int) := by rw [IntWalk.i64_in _ (by omega)]; omega
        have hsub2 : (0 : Int) ≤ ((k - 1 : Nat) : Int) := by omega
        have hsub3 : ((k - 1 : Nat) : Int) < (n : Int) := by omega
        by_cases q3 : x ≤ la
        · have HR0 : Hid (R = false) := by show R = _; rw [HQ.out, decide_eq_false (show ¬ la < x by omega)]; simp
          have t3 : decide (x ≤ la) = true := by simpa using q3
          refine Free.wp_seq (I := fun w' => Below wr.heap.size wr w') (Gr := fun w1 w2 => Below w1.heap.size w1 w2) (by kernel_rfl) (by kernel_rfl) (Below.refl _ _).drew ?_; apply Free.sv; intro a w1 hI hp
          · have e1 := hp.sl 1; simp at e1; refine ⟨Free.wn, ?_⟩; clear hp; go_simp; rfl
          apply Free.sv; intro a w1 hI hp
          · have e50 := hp.b 0 0; have ka3 := (hI.cell (p := ⟨w.heap.size, 3, none⟩) hzw).trans a3; refine ⟨Free.wn, ?_⟩; clear hp; go_simp; rfl
          apply Free.sv; intro a w1 hI hp
          · have e3 := hp.sl 3; simp at e3; refine ⟨Free.wn, ?_⟩; clear hp; go_simp; rfl
          apply Free.sv; intro a w1 hI hp
          · have e51 := hp.b 1 1; have e52 := hp.b 2 0; refine ⟨Free.wn, ?_⟩; clear hp; go_simp; rfl
          apply Free.sv; intro a w1 hI hp
          · have e53 := hp.b 3 0; have kc0 := (hI.cell (p := ⟨b, off + k, none⟩) hbl).trans c0; refine ⟨Free.wn, ?_⟩; clear hp; go_simp; rfl
          apply Free.sv; intro a w1 hI hp
          · have e1 := hp.sl 1; simp at e1; refine ⟨Free.wn, ?_⟩; clear hp; go_simp; rfl
          apply Free.sv; intro a w1 hI hp
          · have e55 := hp.b 5 0; have ka2 := (hI.cell (p := ⟨w.heap.size, 2, none⟩) hzw).trans a2; refine ⟨Free.wn, ?_⟩; clear hp; go_simp; rfl
          apply Free.sv; intro a w1 hI hp
          · have e56 := hp.b 6 0; refine ⟨Free.wn, ?_⟩; clear hp; go_simp; rfl
          apply Free.sv; intro a w1 hI hp
          · have e54 := hp.b 4 3; have e57 := hp.b 7 0; refine ⟨Free.wn, ?_⟩; clear hp; go_simp; rfl
          apply Free.sv; intro a w1 hI hp
          · have e58 := hp.b 8 0; refine ⟨Free.wn, ?_⟩; clear hp; go_simp; rfl
          apply Free.sv; intro a w1 hI hp
          · have e59 := hp.b 9 0; have e1 := hp.sl 1; simp at e1; refine ⟨hp.wt e59, ?_⟩; clear hp; go_simp; rfl
          apply Free.sv; intro a w1 hI hp
          · have e59 := hp.b 9 1; have e60 := hp.b 10 0; have ka3 := (hI.cell (p := ⟨w.heap.size, 3, none⟩) hzw).trans a3; refine ⟨hp.wt e59, ?_⟩; clear hp; go_simp; rfl
          apply Free.sv; intro a w1 hI hp
          · have e59 := hp.b 9 2; have e3 := hp.sl 3; simp at e3; refine ⟨hp.wt e59, ?_⟩; clear hp; go_simp; rfl
          apply Free.sv; intro a w1 hI hp
          · have e59 := hp.b 9 3; have e61 := hp.b 11 1; have e62 := hp.b 12 0; refine ⟨hp.wt e59, ?_⟩; clear hp; go_simp; rfl
          apply Free.sv; intro a w1 hI hp
          · have e59 := hp.b 9 4; have e63 := hp.b 13 0; have kc0 := (hI.cell (p := ⟨b, off + k, none⟩) hbl).trans c0; refine ⟨hp.wt e59, ?_⟩; clear hp; go_simp; rfl
          apply Free.sv; intro a w1 hI hp
          · have e59 := hp.b 9 5; have e64 := hp.b 14 0; refine ⟨hp.wt e59, ?_⟩; clear hp; go_simp; rfl
          apply Free.sv; intro a w1 hI hp
          · have e59 := hp.b 9 6; have e65 := hp.b 15 0; refine ⟨Free.wn, ?_⟩; clear hp; go_simp; rfl
          apply Free.sv; intro a w1 hI hp
          · have e66 := hp.b 16 0; refine ⟨Free.wn, ?_⟩; clear hp; go_simp; rfl
          apply Free.sv; intro a w1 hI hp
          · have e67 := hp.b 17 0; have e3 := hp.sl 3; simp at e3; refine ⟨hp.wt e67, ?_⟩; clear hp; go_simp; rfl
          apply Free.sv; intro a w1 hI hp
          · have e67 := hp.b 17 1; have e68 := hp.b 18 0; refine ⟨hp.wt e67, ?_⟩; clear hp; go_simp; rfl
          apply Free.sv; intro a w1 hI hp
          · have e67 := hp.b 17 2; have e69 := hp.b 19 0; refine ⟨hp.wt e67, ?_⟩; clear hp; go_simp; rfl
          apply Free.sv; intro a w1 hI hp
          · have e70 := hp.b 20 0; have e1 := hp.sl 1; simp at e1; refine ⟨hp.wt e70, ?_⟩; clear hp; go_simp; rfl
          apply Free.sv; intro a w1 hI hp
          · have e70 := hp.b 20 1; have e71 := hp.b 21 0; have ka3 := (hI.cell (p := ⟨w.heap.size, 3, none⟩) hzw).trans a3; refine ⟨hp.wt e70, ?_⟩; clear hp; go_simp; rfl
          apply Free.sv; intro a w1 hI hp
          · have e70 := hp.b 20 2; have e3 := hp.sl 3; simp at e3; refine ⟨hp.wt e70, ?_⟩; clear hp; go_simp; rfl
          apply Free.sv; intro a w1 hI hp
          · have e70 := hp.b 20 3; have e72 := hp.b 22 1; have e73 := hp.b 23 0; refine ⟨hp.wt e70, ?_⟩; clear hp; go_simp; rfl
          apply Free.sv; intro a w1 hI hp
          · have e70 := hp.b 20 4; have e74 := hp.b 24 0; have kc0 := (hI.cell (p := ⟨b, off + k, none⟩) hbl).trans c0; refine ⟨hp.wt e70, ?_⟩; clear hp; go_simp; rfl
          apply Free.sv; intro a w1 hI hp
          · have e70 := hp.b 20 5; have e1 := hp.sl 1; simp at e1; refine ⟨hp.wt e70, ?_⟩; clear hp; go_simp; rfl
          apply Free.sv; intro a w1 hI hp
          · have e70 := hp.b 20 6; have e76 := hp.b 26 0; have ka3 := (hI.cell (p := ⟨w.heap.size, 3, none⟩) hzw).trans a3; refine ⟨hp.wt e70, ?_⟩; clear hp; go_simp; rfl
          apply Free.sv; intro a w1 hI hp
          · have e70 := hp.b 20 7; have e3 := hp.sl 3; simp at e3; refine ⟨hp.wt e70, ?_⟩; clear hp; go_simp; rfl
          apply Free.sv; intro a w1 hI hp
          · have e70 := hp.b 20 8; have e78 := hp.b 28 0; refine ⟨hp.wt e70, ?_⟩; clear hp; go_simp; rfl
          apply Free.sv; intro a w1 hI hp
          · have e70 := hp.b 20 9; have e77 := hp.b 27 2; have e79 := hp.b 29 0; refine ⟨hp.wt e70, ?_⟩; clear hp; go_simp; rfl
          apply Free.sv; intro a w1 hI hp
          · have e70 := hp.b 20 10; have e80 := hp.b 30 0; have kc9 := (hI.cell (p := ⟨b, off + (k - 1), none⟩) hbl).trans c9; refine ⟨hp.wt e70, ?_⟩; clear hp; go_simp; rfl
          apply Free.sv; intro a w1 hI hp
          · have e70 := hp.b 20 11; have e75 := hp.b 25 6; have e81 := hp.b 31 0; refine ⟨hp.wt e70, ?_⟩; clear hp; go_simp; rfl
          apply Free.sv; intro a w1 hI hp
          · have e67 := hp.b 17 15; have e70 := hp.b 20 12; have e82 := hp.b 32 0; refine ⟨hp.wt e67, ?_⟩; clear hp; go_simp; rfl
          apply Free.sv; intro a w1 hI hp
          · have e67 := hp.b 17 16; have e83 := hp.b 33 0; refine ⟨Free.wn, ?_⟩; clear hp; go_simp; rfl
          refine Free.Seq.done (by simp) (fun wz hIz => ?_); simp only [List.reverse_cons, List.reverse_nil, List.nil_append, List.cons_append, Free.All, Free.eqF, forall_eq]
          skip
          simp only [Free.putL, Act.put, List.setIfInBounds_toArray, List.set_cons_zero, List.set_cons_succ]; have HBZ := Lib.hid (HBr.out.trans (hIz.mono (by omega))); clear hIz
          dsimp only [Exit.inBlock, Exit.then]
          go_wp2_with fail
          go_ret
          exact ⟨ret_bool (by rw [HR0.out]), HBZ.out⟩
        · have hr : R = moreB x (m.drop (k + 1)) := by
            rw [HQ.out, decide_eq_true (show la < x by omega), decide_eq_true (show x ≤ 65535 by omega)]; simp
          have HR1 := Lib.hid hr; have t3 : decide (x ≤ la) = false := by simpa using q3
          clear hr; refine Free.wp_seq (I := fun w' => Below wr.heap.size wr w') (Gr := fun w1 w2 => Below w1.heap.size w1 w2) (by kernel_rfl) (by kernel_rfl) (Below.refl _ _).drew ?_; apply Free.sv; intro a w1 hI hp
          · have e1 := hp.sl 1; simp at e1; refine ⟨Free.wn, ?_⟩; clear hp; go_simp; rfl
          apply Free.sv; intro a w1 hI hp
          · have e50 := hp.b 0 0; have ka3 := (hI.cell (p := ⟨w.heap.size, 3, none⟩) hzw).trans a3; refine ⟨Free.wn, ?_⟩; clear hp; go_simp; rfl
          apply Free.sv; intro a w1 hI hp
          · have e3 := hp.sl 3; simp at e3; refine ⟨Free.wn, ?_⟩; clear hp; go_simp; rfl
          apply Free.sv; intro a w1 hI hp
          · have e51 := hp.b 1 1; have e52 := hp.b 2 0; refine ⟨Free.wn, ?_⟩; clear hp; go_simp; rfl
          apply Free.sv; intro a w1 hI hp
          · have e53 := hp.b 3 0; have kc0 := (hI.cell (p := ⟨b, off + k, none⟩) hbl).trans c0; refine ⟨Free.wn, ?_⟩; clear hp; go_simp; rfl
          apply Free.sv; intro a w1 hI hp
          · have e1 := hp.sl 1; simp at e1; refine ⟨Free.wn, ?_⟩; clear hp; go_simp; rfl
          apply Free.sv; intro a w1 hI hp
          · have e55 := hp.b 5 0; have ka2 := (hI.cell (p := ⟨w.heap.size, 2, none⟩) hzw).trans a2; refine ⟨Free.wn, ?_⟩; clear hp; go_simp; rfl
          apply Free.sv; intro a w1 hI hp
          · have e56 := hp.b 6 0; refine ⟨Free.wn, ?_⟩; clear hp; go_simp; rfl
          apply Free.sv; intro a w1 hI hp
          · have e54 := hp.b 4 3; have e57 := hp.b 7 0; refine ⟨Free.wn, ?_⟩; clear hp; go_simp; rfl
          apply Free.sv; intro a w1 hI hp
          · have e58 := hp.b 8 0; refine ⟨Free.wn, ?_⟩; clear hp; go_simp; rfl
          apply Free.sv; intro a w1 hI hp
          · have e59 := hp.b 9 0; have e1 := hp.sl 1; simp at e1; refine ⟨hp.wt e59, ?_⟩; clear hp; go_simp; rfl
          apply Free.sv; intro a w1 hI hp
          · have e59 := hp.b 9 1; have e60 := hp.b 10 0; have ka3 := (hI.cell (p := ⟨w.heap.size, 3, none⟩) hzw).trans a3; refine ⟨hp.wt e59, ?_⟩; clear hp; go_simp; rfl
          apply Free.sv; intro a w1 hI hp
          · have e59 := hp.b 9 2; have e3 := hp.sl 3; simp at e3; refine ⟨hp.wt e59, ?_⟩; clear hp; go_simp; rfl
          apply Free.sv; intro a w1 hI hp
          · have e59 := hp.b 9 3; have e61 := hp.b 11 1; have e62 := hp.b 12 0; refine ⟨hp.wt e59, ?_⟩; clear hp; go_simp; rfl
          apply Free.sv; intro a w1 hI hp
          · have e59 := hp.b 9 4; have e63 := hp.b 13 0; have kc0 := (hI.cell (p := ⟨b, off + k, none⟩) hbl).trans c0; refine ⟨hp.wt e59, ?_⟩; clear hp; go_simp; rfl
          apply Free.sv; intro a w1 hI hp
          · have e59 := hp.b 9 5; have e64 := hp.b 14 0; refine ⟨hp.wt e59, ?_⟩; clear hp; go_simp; rfl
          apply Free.sv; intro a w1 hI hp
          · have e59 := hp.b 9 6; have e65 := hp.b 15 0; refine ⟨Free.wn, ?_⟩; clear hp; go_simp; rfl
          apply Free.sv; intro a w1 hI hp
          · have e66 := hp.b 16 0; refine ⟨Free.wn, ?_⟩; clear hp; go_simp; rfl
          apply Free.sv; intro a w1 hI hp
          · have e67 := hp.b 17 0; have e3 := hp.sl 3; simp at e3; refine ⟨hp.wt e67, ?_⟩; clear hp; go_simp; rfl
          apply Free.sv; intro a w1 hI hp
          · have e67 := hp.b 17 1; have e68 := hp.b 18 0; refine ⟨hp.wt e67, ?_⟩; clear hp; go_simp; rfl
          apply Free.sv; intro a w1 hI hp
          · have e67 := hp.b 17 2; have e69 := hp.b 19 0; refine ⟨hp.wt e67, ?_⟩; clear hp; go_simp; rfl
          apply Free.sv; intro a w1 hI hp
          · have e70 := hp.b 20 0; have e1 := hp.sl 1; simp at e1; refine ⟨hp.wt e70, ?_⟩; clear hp; go_simp; rfl
          apply Free.sv; intro a w1 hI hp
          · have e70 := hp.b 20 1; have e71 := hp.b 21 0; have ka3 := (hI.cell (p := ⟨w.heap.size, 3, none⟩) hzw).trans a3; refine ⟨hp.wt e70, ?_⟩; clear hp; go_simp; rfl
          apply Free.sv; intro a w1 hI hp
          · have e70 := hp.b 20 2; have e3 := hp.sl 3; simp at e3; refine ⟨hp.wt e70, ?_⟩; clear hp; go_simp; rfl
          apply Free.sv; intro a w1 hI hp
          · have e70 := hp.b 20 3; have e72 := hp.b 22 1; have e73 := hp.b 23 0; refine ⟨hp.wt e70, ?_⟩; clear hp; go_simp; rfl
          apply Free.sv; intro a w1 hI hp
          · have e70 := hp.b 20 4; have e74 := hp.b 24 0; have kc0 := (hI.cell (p := ⟨b, off + k, none⟩) hbl).trans c0; refine ⟨hp.wt e70, ?_⟩; clear hp; go_simp; rfl
          apply Free.sv; intro a w1 hI hp
          · have e70 := hp.b 20 5; have e1 := hp.sl 1; simp at e1; refine ⟨hp.wt e70, ?_⟩; clear hp; go_simp; rfl
          apply Free.sv; intro a w1 hI hp
          · have e70 := hp.b 20 6; have e76 := hp.b 26 0; have ka3 := (hI.cell (p := ⟨w.heap.size, 3, none⟩) hzw).trans a3; refine ⟨hp.wt e70, ?_⟩; clear hp; go_simp; rfl
          apply Free.sv; intro a w1 hI hp
          · have e70 := hp.b 20 7; have e3 := hp.sl 3; simp at e3; refine ⟨hp.wt e70, ?_⟩; clear hp; go_simp; rfl
          apply Free.sv; intro a w1 hI hp
          · have e70 := hp.b 20 8; have e78 := hp.b 28 0; refine ⟨hp.wt e70, ?_⟩; clear hp; go_simp; rfl
          apply Free.sv; intro a w1 hI hp
          · have e70 := hp.b 20 9; have e77 := hp.b 27 2; have e79 := hp.b 29 0; refine ⟨hp.wt e70, ?_⟩; clear hp; go_simp; rfl
          apply Free.sv; intro a w1 hI hp
          · have e70 := hp.b 20 10; have e80 := hp.b 30 0; have kc9 := (hI.cell (p := ⟨b, off + (k - 1), none⟩) hbl).trans c9; refine ⟨hp.wt e70, ?_⟩; clear hp; go_simp; rfl
          apply Free.sv; intro a w1 hI hp
          · have e70 := hp.b 20 11; have e75 := hp.b 25 6; have e81 := hp.b 31 0; refine ⟨hp.wt e70, ?_⟩; clear hp; go_simp; rfl
          apply Free.sv; intro a w1 hI hp
          · have e67 := hp.b 17 15; have e70 := hp.b 20 12; have e82 := hp.b 32 0; refine ⟨hp.wt e67, ?_⟩; clear hp; go_simp; rfl
          apply Free.sv; intro a w1 hI hp
          · have e67 := hp.b 17 16; have e83 := hp.b 33 0; refine ⟨Free.wn, ?_⟩; clear hp; go_simp; rfl
          refine Free.Seq.done (by simp) (fun wz hIz => ?_); simp only [List.reverse_cons, List.reverse_nil, List.nil_append, List.cons_append, Free.All, Free.eqF, forall_eq]
          skip
          simp only [Free.putL, Act.put, List.setIfInBounds_toArray, List.set_cons_zero, List.set_cons_succ]; have HBZ := Lib.hid (HBW.out.trans (hIz.mono hzr)); have HLA : Hid (u + 2 ≤ x ∧ m[k + 1 - 1]? = some x) := ⟨by omega, HX.out⟩; clear hIz
          dsimp only [Exit.inBlock, Exit.then]
          go_wp2_with fail
          exact ⟨⟨k + 1, by simp, by omega, ⟨x, HR1.out, fun h => absurd h (by omega), fun _ => HLA.out⟩, HBZ.out⟩, by simp only [intOf]; omega⟩
      · have hkn : k = n := by omega
        subst hkn; have HR1 : Hid (R = true) := by show R = true; rw [HQ.out, List.drop_of_length_le (by rw [HL.out]; exact Nat.le_refl _), moreB]
        go_wp2_with fail
        go_ret
        exact ⟨ret_bool (by rw [HR1.out]), HBr.out⟩
theorem marks_snoc (x : Mk) : ∀ (a : List Mk) (p : Option Mk), marksB p (a ++ [x]) = (marksB p a && (rightB x && (match (a.getLast?.or p) with | none => true | some q => behind q x)))
  | [], p => by
    cases p <;> simp [marksB]
  | y :: r, p => by
    have ih := marks_snoc x r (some y); have e : ((y :: r).getLast?.or p) = (r.getLast?.or (some y)) := by
      cases r with
      | nil => simp
      | cons z r => simp [List.getLast?_cons]
    rw [e]
    cases p with
    | none => rw [List.cons_append, marksB, marksB, ih, Bool.and_assoc]
    | some q => rw [List.cons_append, marksB, marksB, ih]; simp only [Bool.and_assoc]

set_option maxRecDepth 100000 in
set_option maxHeartbeats 8000000 in
theorem rcheckmarks_any (l : List Mk) (A : Option Addr) (n c B : Nat) (w : World) (hR : RdE EMk 4 w B A n c l) :
    Calls Try.prog 52 #[.int .i64 256, .slice A n c] w fun e w' => e = .returned (.int .i64 (fromE l)) ∧ Below w.heap.size w w' := by
  obtain ⟨R, hRR⟩ : ∃ R, R = fromE l := ⟨_, rfl⟩; rw [← hRR]; have HRR := Lib.hid hRR; have HR := Lib.hid hR; have HL := Lib.hid hR.len; have hbig := hR.big; clear hR hRR
  go_enter Try.func52, Try.ntmps52
  go_wp2_with fail
  go_loopw [5, 6] (fun y i wr => ∃ k s : Nat, i = .int .i64 k ∧ y = .int .i64 s ∧ k ≤ n ∧ Hid (s = gaps (l.take k) ∧ marksB none (l.take k) = true ∧ marksB none l = marksB (l.take k).getLast? (l.drop k) ∧ Below w.heap.size w wr)) (fun _ i _ => n - (intOf i).toNat)
  case atStart => exact ⟨0, 0, rfl, rfl, Nat.zero_le _, by simp [gaps], by simp [marksB], by simp, Below.refl _ _⟩
  case round =>
    obtain ⟨k, s, rfl, rfl, hk, hs, hm, hq, hb⟩ := hrel; have HS := Lib.hid hs; have HM := Lib.hid hm; have HQ := Lib.hid hq; have HB := Lib.hid hb; have hs9 : s ≤ 1000000000000 := by rw [hs]; exact marks_gaps hm
    have hzr := hb.size; clear hs hm hq hb
    by_cases hlt : k < n
    · obtain ⟨b, off, x, cs, rfl, hBb, hbl, hx, hcs, hlen, hcell⟩ := (HR.out.below keeps_mk HB.out).at' hlt; obtain ⟨Ax, cx, rfl, hrx⟩ := hcs; have c0 := hcell 0 _ rfl; have c1 := hcell 1 _ rfl; have c2 := hcell 2 _ rfl; have c3 := hcell 3 _ rfl; rw [Nat.add_zero] at c0; have hlast : (l.take k).getLast? = if k = 0 then none else l[k - 1]? := by
        have hl := HL.out
        by_cases h : k = 0
        · subst h; simp
        · rw [if_neg h, List.getLast?_eq_getElem?, List.length_take, Nat.min_eq_left (by omega), List.getElem?_take, if_pos (by omega)]
      have hpc : 0 < k → ∃ y : Mk, l[k - 1]? = some y ∧ wr.cell? ⟨b, off + (k - 1) * 4, none⟩ = some (.int .i64 y.o) ∧ wr.cell? ⟨b, off + (k - 1) * 4 + 1, none⟩ = some (.int .i64 y.e) := fun h0 => by
        obtain ⟨b', off', y, cs', hbo, _, _, hy, hcs', _, hcell'⟩ := (HR.out.below keeps_mk HB.out).at' (show k - 1 < n by omega); obtain ⟨Ay, cy, rfl, _⟩ := hcs'; injection hbo with hbo
        injection hbo with hb1 hb2
        subst hb1 hb2; exact ⟨y, hy, hcell' 0 _ rfl, hcell' 1 _ rfl⟩
      have HPC := Lib.hid hpc; have htk : l.take (k + 1) = l.take k ++ [x] := by rw [List.take_add_one, hx]; rfl
      rw [marksB_drop hx, hlast] at HQ; have hm1 : ∀ (_ : rightB x = true) (_ : 0 < k → ∀ y, l[k - 1]? = some y → behind y x = true), marksB none (l.take (k + 1)) = true ∧ marksB none l = marksB (l.take (k + 1)).getLast? (l.drop (k + 1)) ∧ s + x.m.length = gaps (l.take (k + 1)) := fun h1 h2 => by
        refine ⟨?_, ?_, ?_⟩
        · rw [htk, marks_snoc, HM.out, h1, hlast]; simp only [Bool.true_and, Option.or_none]
          by_cases h : k = 0
          · rw [if_pos h]
          · obtain ⟨y, hy, _⟩ := HPC.out (by omega); rw [if_neg h, hy]; exact h2 (by omega) y hy
        · rw [htk, List.getLast?_append, List.getLast?_singleton, HQ.out, h1]; simp only [Bool.true_and]
          by_cases h : k = 0
          · rw [if_pos h]; rfl
          · obtain ⟨y, hy, _⟩ := HPC.out (by omega); rw [if_neg h, hy]
            show (behind y x && _) = _
            rw [h2 (by omega) y hy]; rfl
        · rw [htk, gaps_append, HS.out]; simp [gaps]
      have HM1 := Lib.hid hm1; have hrc := rright_any' x Ax cx B wr hrx; have hxl : rightB x = true → x.m.length ≤ 65535 := right_len; obtain ⟨xo, xe, xu, xm⟩ := x; simp only at c0 c1 c2 c3 hrc hxl; have HRC := Lib.hid hrc; obtain ⟨nx, hnx⟩ : ∃ nx, nx = xm.length := ⟨_, rfl⟩; rw [← hnx] at c3 HRC hxl; have HNX := Lib.hid hnx; have hkb : k < 281474976710656 := by omega
      clear hcell hlen hx hrx hpc htk hlast hm1 hrc hnx
      by_cases hrt : rightB ⟨xo, xe, xu, xm⟩ = true
      rotate_left
      · have hrf : rightB ⟨xo, xe, xu, xm⟩ = false := by simpa using hrt
        have HR0 : Hid (R = 2) := by
          show R = 2
          rw [HRR.out, fromE, if_pos]; rw [HQ.out, hrf, Bool.false_and, Bool.false_and]
        rw [hrf] at HRC; clear hrt hrf hxl
        go_wp2_with fail
        refine HRC.out.mono ?_; rintro e9 w9 ⟨rfl, hb9⟩; have HB9 := Lib.hid (HB.out.trans (hb9.mono hzr)); clear hb9
        go_wp2_with fail
        go_ret
        exact ⟨ret_int (by rw [HR0.out]), HB9.out⟩
      have hx6 := hxl hrt; rw [hrt] at HRC; have HRT := Lib.hid hrt; clear hxl hrt
      go_wp2_with fail
      refine HRC.out.mono ?_; rintro e9 wr9 ⟨rfl, hb9⟩; have HB9 := Lib.hid (HB.out.trans (hb9.mono hzr)); have c0 := (hb9.cell (p := ⟨b, off + k * 4, none⟩) hbl).trans c0; have c1 := (hb9.cell (p := ⟨b, off + k * 4 + 1, none⟩) hbl).trans c1; have c3 := (hb9.cell (p := ⟨b, off + k * 4 + 3, none⟩) hbl).trans c3; have hpc9 : 0 < k → ∃ y : Mk, l[k - 1]? = some y ∧ wr9.cell? ⟨b, off + (k - 1) * 4, none⟩ = some (.int .i64 y.o) ∧ wr9.cell? ⟨b, off + (k - 1) * 4 + 1, none⟩ = some (.int .i64 y.e) := fun h0 => by
        obtain ⟨y, h1, h2, h3⟩ := HPC.out h0; exact ⟨y, h1, (hb9.cell (p := ⟨b, off + (k - 1) * 4, none⟩) hbl).trans h2, (hb9.cell (p := ⟨b, off + (k - 1) * 4 + 1, none⟩) hbl).trans h3⟩
      have HPC9 := Lib.hid hpc9; have hz9 := hb9.size; have hbl9 : b < wr9.heap.size := by omega
      clear hb9 c2 HRC HPC hpc9 hbl
      go_wp2_with fail
      by_cases q0 : k = 0
      · have HG := Lib.hid (HM1.out HRT.out (fun h => absurd h (by omega))); have t0 : decide (0 < k) = false := by simp; omega
        clear q0; refine Free.wp_seq (I := fun w' => Below wr9.heap.size wr9 w') (Gr := fun w1 w2 => Below w1.heap.size w1 w2) (by kernel_rfl) (by kernel_rfl) (Below.refl _ _).drew ?_; apply Free.sv; intro a w1 hI hp
        · have e6 := hp.sl 6; simp at e6; refine ⟨Free.wn, ?_⟩; clear hp; go_simp; rfl
        apply Free.sv; intro a w1 hI hp
        · have e25 := hp.b 0 0; refine ⟨Free.wn, ?_⟩; clear hp; go_simp; rfl
        apply Free.sv; intro a w1 hI hp
        · have e26 := hp.b 1 0; refine ⟨Free.wn, ?_⟩; clear hp; go_simp; rfl
        refine Free.sp 2 0 ?_; refine Free.sp 2 1 ?_; refine Free.sp 2 2 ?_; refine Free.sp 2 3 ?_; refine Free.sp 2 4 ?_; refine Free.sp 2 5 ?_; refine Free.sp 2 6 ?_; refine Free.sp 2 7 ?_; refine Free.sp 2 8 ?_; refine Free.sp 2 9 ?_; refine Free.sp 2 10 ?_; refine Free.sp 2 11 ?_; refine Free.sp 2 12 ?_; refine Free.Seq.pass (fun a w1 hI hp => hp.passU rfl rfl rfl (hp.b 15 0)) ?_; refine Free.Seq.pass (fun a w1 hI hp => hp.passU rfl rfl rfl (hp.b 15 1)) ?_; refine Free.Seq.pass (fun a w1 hI hp => hp.passU rfl rfl rfl (hp.b 15 2)) ?_; refine Free.Seq.pass (fun a w1 hI hp => hp.passU rfl rfl rfl (hp.b 15 3)) ?_; refine Free.Seq.pass (fun a w1 hI hp => hp.passU rfl rfl rfl (hp.b 15 4)) ?_; refine Free.Seq.pass (fun a w1 hI hp => hp.passU rfl rfl rfl (hp.b 15 5)) ?_; refine Free.Seq.pass (fun a w1 hI hp => hp.passU rfl rfl rfl (hp.b 15 6)) ?_; refine Free.Seq.pass (fun a w1 hI hp => hp.passU rfl rfl rfl (hp.b 15 7)) ?_; refine Free.Seq.pass (fun a w1 hI hp => hp.passU rfl rfl rfl (hp.b 15 8)) ?_; refine Free.Seq.pass (fun a w1 hI hp => hp.passU rfl rfl rfl (hp.b 15 9)) ?_; refine Free.Seq.pass (fun a w1 hI hp => hp.passU rfl rfl rfl (hp.b 15 10)) ?_; refine Free.Seq.pass (fun a w1 hI hp => hp.passU rfl rfl rfl (hp.b 15 11)) ?_; refine Free.Seq.pass (fun a w1 hI hp => hp.passU rfl rfl rfl (hp.b 15 12)) ?_; refine Free.Seq.pass (fun a w1 hI hp => hp.passU rfl rfl rfl (hp.b 28 0)) ?_; refine Free.Seq.pass (fun a w1 hI hp => hp.passU rfl rfl rfl (hp.b 28 1)) ?_; refine Free.Seq.pass (fun a w1 hI hp => hp.passU rfl rfl rfl (hp.b 28 2)) ?_; refine Free.Seq.pass (fun a w1 hI hp => hp.passU rfl rfl rfl (hp.b 28 3)) ?_; refine Free.Seq.pass (fun a w1 hI hp => hp.passU rfl rfl rfl (hp.b 28 4)) ?_; refine Free.Seq.pass (fun a w1 hI hp => hp.passU rfl rfl rfl (hp.b 28 5)) ?_; refine Free.Seq.pass (fun a w1 hI hp => hp.passU rfl rfl rfl (hp.b 28 6)) ?_; refine Free.Seq.pass (fun a w1 hI hp => hp.passU rfl rfl rfl (hp.b 28 7)) ?_; refine Free.Seq.pass (fun a w1 hI hp => hp.passU rfl rfl rfl (hp.b 28 8)) ?_; refine Free.Seq.pass (fun a w1 hI hp => hp.passU rfl rfl rfl (hp.b 28 9)) ?_; refine Free.Seq.pass (fun a w1 hI hp => hp.passU rfl rfl rfl (hp.b 28 10)) ?_; refine Free.Seq.pass (fun a w1 hI hp => hp.passU rfl rfl rfl (hp.b 28 11)) ?_; refine Free.Seq.pass (fun a w1 hI hp => hp.passU rfl rfl rfl (hp.b 15 25)) ?_; refine Free.sp 2 39 ?_; apply Free.sv; intro a w1 hI hp
        · have e27 := hp.b 2 40; have e67 := hp.b 42 0; refine ⟨Free.wn, ?_⟩; clear hp; go_simp; rfl
        refine Free.Seq.done (by simp) (fun wz hIz => ?_); simp only [List.reverse_cons, List.reverse_nil, List.nil_append, List.cons_append, Free.All, Free.eqF, forall_eq]
        skip
        simp only [Free.putL, Act.put, List.setIfInBounds_toArray, List.set_cons_zero, List.set_cons_succ]; have HBZ := Lib.hid (HB9.out.trans (hIz.mono (by have := HB9.out.size; omega))); have c3 := (hIz.cell (p := ⟨b, off + k * 4 + 3, none⟩) hbl9).trans c3; have hsz := hIz.size; have hblz : b < wz.heap.size := by omega
        have hadd : IntKind.i64.wrap ((s : Int) + (nx : Int)) = ((s + nx : Nat) : Int) := by rw [IntWalk.i64_in _ (by omega)]; omega
        clear hIz c0 c1
        dsimp only [Exit.inBlock, Exit.then]
        go_wp2_with fail
        exact ⟨⟨k + 1, s + nx, by simp, by first | rfl | (congr 1; omega), by omega, by rw [HNX.out]; exact HG.out.2.2, HG.out.1, HG.out.2.1, HBZ.out⟩, by simp only [intOf]; omega⟩
      have t0 : decide (0 < k) = true := by simp; omega
      obtain ⟨⟨po, pe, pu, pm⟩, hy, d0, d1⟩ := HPC9.out (by omega); simp only at d0 d1; have hsub : IntKind.i64.wrap ((k : Int) - 1) = ((k - 1 : Nat) : Int) := by rw [IntWalk.i64_in _ (by omega)]; omega
      have hsub2 : (0 : Int) ≤ ((k - 1 : Nat) : Int) := by omega
      have hsub3 : ((k - 1 : Nat) : Int) < (n : Int) := by omega
      have hbh : behind ⟨po, pe, pu, pm⟩ ⟨xo, xe, xu, xm⟩ = false → Hid (R = 2) := fun h => by
        show R = 2
        rw [HRR.out, fromE, if_pos]; rw [HQ.out, if_neg q0, hy]; simp only; rw [h, Bool.and_false, Bool.false_and]
      have hgd : behind ⟨po, pe, pu, pm⟩ ⟨xo, xe, xu, xm⟩ = true → Hid (marksB none (l.take (k + 1)) = true ∧ marksB none l = marksB (l.take (k + 1)).getLast? (l.drop (k + 1)) ∧ s + xm.length = gaps (l.take (k + 1))) := fun h => HM1.out HRT.out (fun _ y h9 => by rw [hy] at h9; injection h9 with h9; rw [← h9]; exact h)
      by_cases q1 : xo < po
      · have HR0 := hbh (by simp only [behind, decide_eq_false_iff_not]; omega); have t1 : decide (xo < po) = true := by simpa using q1
        clear hbh hgd; refine Free.wp_seq (I := fun w' => Below wr9.heap.size wr9 w') (Gr := fun w1 w2 => Below w1.heap.size w1 w2) (by kernel_rfl) (by kernel_rfl) (Below.refl _ _).drew ?_; apply Free.sv; intro a w1 hI hp
        · have e6 := hp.sl 6; simp at e6; refine ⟨Free.wn, ?_⟩; clear hp; go_simp; rfl
        apply Free.sv; intro a w1 hI hp
        · have e25 := hp.b 0 0; refine ⟨Free.wn, ?_⟩; clear hp; go_simp; rfl
        apply Free.sv; intro a w1 hI hp
        · have e26 := hp.b 1 0; refine ⟨Free.wn, ?_⟩; clear hp; go_simp; rfl
        apply Free.sv; intro a w1 hI hp
        · have e27 := hp.b 2 0; have e1 := hp.sl 1; simp at e1; refine ⟨hp.wt e27, ?_⟩; clear hp; go_simp; rfl
        apply Free.sv; intro a w1 hI hp
        · have e27 := hp.b 2 1; have e6 := hp.sl 6; simp at e6; refine ⟨hp.wt e27, ?_⟩; clear hp; go_simp; rfl
        apply Free.sv; intro a w1 hI hp
        · have e27 := hp.b 2 2; have e28 := hp.b 3 1; have e29 := hp.b 4 0; refine ⟨hp.wt e27, ?_⟩; clear hp; go_simp; rfl
        apply Free.sv; intro a w1 hI hp
        · have e27 := hp.b 2 3; have e30 := hp.b 5 0; refine ⟨hp.wt e27, ?_⟩; clear hp; go_simp; rfl
        apply Free.sv; intro a w1 hI hp
        · have e27 := hp.b 2 4; have e31 := hp.b 6 0; have kc0 := (hI.cell (p := ⟨b, off + k * 4, none⟩) hbl9).trans c0; refine ⟨hp.wt e27, ?_⟩; clear hp; go_simp; rfl
        apply Free.sv; intro a w1 hI hp
        · have e27 := hp.b 2 5; have e1 := hp.sl 1; simp at e1; refine ⟨hp.wt e27, ?_⟩; clear hp; go_simp; rfl
        apply Free.sv; intro a w1 hI hp
        · have e27 := hp.b 2 6; have e6 := hp.sl 6; simp at e6; refine ⟨hp.wt e27, ?_⟩; clear hp; go_simp; rfl
        apply Free.sv; intro a w1 hI hp
        · have e27 := hp.b 2 7; have e34 := hp.b 9 0; refine ⟨hp.wt e27, ?_⟩; clear hp; go_simp; rfl
        apply Free.sv; intro a w1 hI hp
        · have e27 := hp.b 2 8; have e33 := hp.b 8 2; have e35 := hp.b 10 0; refine ⟨hp.wt e27, ?_⟩; clear hp; go_simp; rfl
        apply Free.sv; intro a w1 hI hp
        · have e27 := hp.b 2 9; have e36 := hp.b 11 0; refine ⟨hp.wt e27, ?_⟩; clear hp; go_simp; rfl
        apply Free.sv; intro a w1 hI hp
        · have e27 := hp.b 2 10; have e37 := hp.b 12 0; have kd0 := (hI.cell (p := ⟨b, off + (k - 1) * 4, none⟩) hbl9).trans d0; refine ⟨hp.wt e27, ?_⟩; clear hp; go_simp; rfl
        apply Free.sv; intro a w1 hI hp
        · have e27 := hp.b 2 11; have e32 := hp.b 7 6; have e38 := hp.b 13 0; refine ⟨hp.wt e27, ?_⟩; clear hp; go_simp; rfl
        apply Free.sv; intro a w1 hI hp
        · have e27 := hp.b 2 12; have e39 := hp.b 14 0; refine ⟨hp.wt e27, ?_⟩; clear hp; go_simp; rfl
        refine Free.sp 15 0 ?_; refine Free.sp 15 1 ?_; refine Free.sp 15 2 ?_; refine Free.sp 15 3 ?_; refine Free.sp 15 4 ?_; refine Free.sp 15 5 ?_; refine Free.sp 15 6 ?_; refine Free.sp 15 7 ?_; refine Free.sp 15 8 ?_; refine Free.sp 15 9 ?_; refine Free.sp 15 10 ?_; refine Free.sp 15 11 ?_; refine Free.sp 15 12 ?_; refine Free.Seq.pass (fun a w1 hI hp => hp.passU rfl rfl rfl (hp.b 28 0)) ?_; refine Free.Seq.pass (fun a w1 hI hp => hp.passU rfl rfl rfl (hp.b 28 1)) ?_; refine Free.Seq.pass (fun a w1 hI hp => hp.passU rfl rfl rfl (hp.b 28 2)) ?_; refine Free.Seq.pass (fun a w1 hI hp => hp.passU rfl rfl rfl (hp.b 28 3)) ?_; refine Free.Seq.pass (fun a w1 hI hp => hp.passU rfl rfl rfl (hp.b 28 4)) ?_; refine Free.Seq.pass (fun a w1 hI hp => hp.passU rfl rfl rfl (hp.b 28 5)) ?_; refine Free.Seq.pass (fun a w1 hI hp => hp.passU rfl rfl rfl (hp.b 28 6)) ?_; refine Free.Seq.pass (fun a w1 hI hp => hp.passU rfl rfl rfl (hp.b 28 7)) ?_; refine Free.Seq.pass (fun a w1 hI hp => hp.passU rfl rfl rfl (hp.b 28 8)) ?_; refine Free.Seq.pass (fun a w1 hI hp => hp.passU rfl rfl rfl (hp.b 28 9)) ?_; refine Free.Seq.pass (fun a w1 hI hp => hp.passU rfl rfl rfl (hp.b 28 10)) ?_; refine Free.Seq.pass (fun a w1 hI hp => hp.passU rfl rfl rfl (hp.b 28 11)) ?_; refine Free.sp 15 25 ?_; apply Free.sv; intro a w1 hI hp
        · have e27 := hp.b 2 39; have e40 := hp.b 15 26; have e66 := hp.b 41 0; refine ⟨hp.wt e27, ?_⟩; clear hp; go_simp; rfl
        apply Free.sv; intro a w1 hI hp
        · have e27 := hp.b 2 40; have e67 := hp.b 42 0; refine ⟨Free.wn, ?_⟩; clear hp; go_simp; rfl
        refine Free.Seq.done (by simp) (fun wz hIz => ?_); simp only [List.reverse_cons, List.reverse_nil, List.nil_append, List.cons_append, Free.All, Free.eqF, forall_eq]
        skip
        simp only [Free.putL, Act.put, List.setIfInBounds_toArray, List.set_cons_zero, List.set_cons_succ]; have HBZ := Lib.hid (HB9.out.trans (hIz.mono (by have := HB9.out.size; omega))); clear hIz
        dsimp only [Exit.inBlock, Exit.then]
        go_wp2_with fail
        go_ret
        exact ⟨ret_int (by rw [HR0.out]), HBZ.out⟩
      have t1 : decide (xo < po) = false := by simpa using q1
      by_cases q2 : xo = po
      rotate_left
      · have HG := hgd (by simp only [behind, decide_eq_true_eq]; omega); have t2 : (xo == po) = false := by simpa using q2
        clear hbh hgd; refine Free.wp_seq (I := fun w' => Below wr9.heap.size wr9 w') (Gr := fun w1 w2 => Below w1.heap.size w1 w2) (by kernel_rfl) (by kernel_rfl) (Below.refl _ _).drew ?_; apply Free.sv; intro a w1 hI hp
        · have e6 := hp.sl 6; simp at e6; refine ⟨Free.wn, ?_⟩; clear hp; go_simp; rfl
        apply Free.sv; intro a w1 hI hp
        · have e25 := hp.b 0 0; refine ⟨Free.wn, ?_⟩; clear hp; go_simp; rfl
        apply Free.sv; intro a w1 hI hp
        · have e26 := hp.b 1 0; refine ⟨Free.wn, ?_⟩; clear hp; go_simp; rfl
        apply Free.sv; intro a w1 hI hp
        · have e27 := hp.b 2 0; have e1 := hp.sl 1; simp at e1; refine ⟨hp.wt e27, ?_⟩; clear hp; go_simp; rfl
        apply Free.sv; intro a w1 hI hp
        · have e27 := hp.b 2 1; have e6 := hp.sl 6; simp at e6; refine ⟨hp.wt e27, ?_⟩; clear hp; go_simp; rfl
        apply Free.sv; intro a w1 hI hp
        · have e27 := hp.b 2 2; have e28 := hp.b 3 1; have e29 := hp.b 4 0; refine ⟨hp.wt e27, ?_⟩; clear hp; go_simp; rfl
        apply Free.sv; intro a w1 hI hp
        · have e27 := hp.b 2 3; have e30 := hp.b 5 0; refine ⟨hp.wt e27, ?_⟩; clear hp; go_simp; rfl
        apply Free.sv; intro a w1 hI hp
        · have e27 := hp.b 2 4; have e31 := hp.b 6 0; have kc0 := (hI.cell (p := ⟨b, off + k * 4, none⟩) hbl9).trans c0; refine ⟨hp.wt e27, ?_⟩; clear hp; go_simp; rfl
        apply Free.sv; intro a w1 hI hp
        · have e27 := hp.b 2 5; have e1 := hp.sl 1; simp at e1; refine ⟨hp.wt e27, ?_⟩; clear hp; go_simp; rfl
        apply Free.sv; intro a w1 hI hp
        · have e27 := hp.b 2 6; have e6 := hp.sl 6; simp at e6; refine ⟨hp.wt e27, ?_⟩; clear hp; go_simp; rfl
        apply Free.sv; intro a w1 hI hp
        · have e27 := hp.b 2 7; have e34 := hp.b 9 0; refine ⟨hp.wt e27, ?_⟩; clear hp; go_simp; rfl
        apply Free.sv; intro a w1 hI hp
        · have e27 := hp.b 2 8; have e33 := hp.b 8 2; have e35 := hp.b 10 0; refine ⟨hp.wt e27, ?_⟩; clear hp; go_simp; rfl
        apply Free.sv; intro a w1 hI hp
        · have e27 := hp.b 2 9; have e36 := hp.b 11 0; refine ⟨hp.wt e27, ?_⟩; clear hp; go_simp; rfl
        apply Free.sv; intro a w1 hI hp
        · have e27 := hp.b 2 10; have e37 := hp.b 12 0; have kd0 := (hI.cell (p := ⟨b, off + (k - 1) * 4, none⟩) hbl9).trans d0; refine ⟨hp.wt e27, ?_⟩; clear hp; go_simp; rfl
        apply Free.sv; intro a w1 hI hp
        · have e27 := hp.b 2 11; have e32 := hp.b 7 6; have e38 := hp.b 13 0; refine ⟨hp.wt e27, ?_⟩; clear hp; go_simp; rfl
        apply Free.sv; intro a w1 hI hp
        · have e27 := hp.b 2 12; have e39 := hp.b 14 0; refine ⟨hp.wt e27, ?_⟩; clear hp; go_simp; rfl
        apply Free.sv; intro a w1 hI hp
        · have e40 := hp.b 15 0; have e1 := hp.sl 1; simp at e1; refine ⟨hp.wt e40, ?_⟩; clear hp; go_simp; rfl
        apply Free.sv; intro a w1 hI hp
        · have e40 := hp.b 15 1; have e6 := hp.sl 6; simp at e6; refine ⟨hp.wt e40, ?_⟩; clear hp; go_simp; rfl
        apply Free.sv; intro a w1 hI hp
        · have e40 := hp.b 15 2; have e41 := hp.b 16 1; have e42 := hp.b 17 0; refine ⟨hp.wt e40, ?_⟩; clear hp; go_simp; rfl
        apply Free.sv; intro a w1 hI hp
        · have e40 := hp.b 15 3; have e43 := hp.b 18 0; refine ⟨hp.wt e40, ?_⟩; clear hp; go_simp; rfl
        apply Free.sv; intro a w1 hI hp
        · have e40 := hp.b 15 4; have e44 := hp.b 19 0; have kc0 := (hI.cell (p := ⟨b, off + k * 4, none⟩) hbl9).trans c0; refine ⟨hp.wt e40, ?_⟩; clear hp; go_simp; rfl
        apply Free.sv; intro a w1 hI hp
        · have e40 := hp.b 15 5; have e1 := hp.sl 1; simp at e1; refine ⟨hp.wt e40, ?_⟩; clear hp; go_simp; rfl
        apply Free.sv; intro a w1 hI hp
        · have e40 := hp.b 15 6; have e6 := hp.sl 6; simp at e6; refine ⟨hp.wt e40, ?_⟩; clear hp; go_simp; rfl
        apply Free.sv; intro a w1 hI hp
        · have e40 := hp.b 15 7; have e47 := hp.b 22 0; refine ⟨hp.wt e40, ?_⟩; clear hp; go_simp; rfl
        apply Free.sv; intro a w1 hI hp
        · have e40 := hp.b 15 8; have e46 := hp.b 21 2; have e48 := hp.b 23 0; refine ⟨hp.wt e40, ?_⟩; clear hp; go_simp; rfl
        apply Free.sv; intro a w1 hI hp
        · have e40 := hp.b 15 9; have e49 := hp.b 24 0; refine ⟨hp.wt e40, ?_⟩; clear hp; go_simp; rfl
        apply Free.sv; intro a w1 hI hp
        · have e40 := hp.b 15 10; have e50 := hp.b 25 0; have kd0 := (hI.cell (p := ⟨b, off + (k - 1) * 4, none⟩) hbl9).trans d0; refine ⟨hp.wt e40, ?_⟩; clear hp; go_simp; rfl
        apply Free.sv; intro a w1 hI hp
        · have e40 := hp.b 15 11; have e45 := hp.b 20 6; have e51 := hp.b 26 0; refine ⟨hp.wt e40, ?_⟩; clear hp; go_simp; rfl
        apply Free.sv; intro a w1 hI hp
        · have e40 := hp.b 15 12; have e52 := hp.b 27 0; refine ⟨hp.wt e40, ?_⟩; clear hp; go_simp; rfl
        refine Free.sp 28 0 ?_; refine Free.sp 28 1 ?_; refine Free.sp 28 2 ?_; refine Free.sp 28 3 ?_; refine Free.sp 28 4 ?_; refine Free.sp 28 5 ?_; refine Free.sp 28 6 ?_; refine Free.sp 28 7 ?_; refine Free.sp 28 8 ?_; refine Free.sp 28 9 ?_; refine Free.sp 28 10 ?_; refine Free.sp 28 11 ?_; apply Free.sv; intro a w1 hI hp
        · have e40 := hp.b 15 25; have e53 := hp.b 28 12; have e65 := hp.b 40 0; refine ⟨hp.wt e40, ?_⟩; clear hp; go_simp; rfl
        apply Free.sv; intro a w1 hI hp
        · have e27 := hp.b 2 39; have e40 := hp.b 15 26; have e66 := hp.b 41 0; refine ⟨hp.wt e27, ?_⟩; clear hp; go_simp; rfl
        apply Free.sv; intro a w1 hI hp
        · have e27 := hp.b 2 40; have e67 := hp.b 42 0; refine ⟨Free.wn, ?_⟩; clear hp; go_simp; rfl
        refine Free.Seq.done (by simp) (fun wz hIz => ?_); simp only [List.reverse_cons, List.reverse_nil, List.nil_append, List.cons_append, Free.All, Free.eqF, forall_eq]
        skip
        simp only [Free.putL, Act.put, List.setIfInBounds_toArray, List.set_cons_zero, List.set_cons_succ]; have HBZ := Lib.hid (HB9.out.trans (hIz.mono (by have := HB9.out.size; omega))); have c3 := (hIz.cell (p := ⟨b, off + k * 4 + 3, none⟩) hbl9).trans c3; have hsz := hIz.size; have hblz : b < wz.heap.size := by omega
        have hadd : IntKind.i64.wrap ((s : Int) + (nx : Int)) = ((s + nx : Nat) : Int) := by rw [IntWalk.i64_in _ (by omega)]; omega
        clear hIz c0 c1
        dsimp only [Exit.inBlock, Exit.then]
        go_wp2_with fail
        exact ⟨⟨k + 1, s + nx, by simp, by first | rfl | (congr 1; omega), by omega, by rw [HNX.out]; exact HG.out.2.2, HG.out.1, HG.out.2.1, HBZ.out⟩, by simp only [intOf]; omega⟩
      have t2 : (xo == po) = true := by simpa using q2
      by_cases q3 : xe ≤ pe
      · have HR0 := hbh (by simp only [behind, decide_eq_false_iff_not]; omega); have t3 : decide (xe ≤ pe) = true := by simpa using q3
        clear hbh hgd q2; refine Free.wp_seq (I := fun w' => Below wr9.heap.size wr9 w') (Gr := fun w1 w2 => Below w1.heap.size w1 w2) (by kernel_rfl) (by kernel_rfl) (Below.refl _ _).drew ?_; apply Free.sv; intro a w1 hI hp
        · have e6 := hp.sl 6; simp at e6; refine ⟨Free.wn, ?_⟩; clear hp; go_simp; rfl
        apply Free.sv; intro a w1 hI hp
        · have e25 := hp.b 0 0; refine ⟨Free.wn, ?_⟩; clear hp; go_simp; rfl
        apply Free.sv; intro a w1 hI hp
        · have e26 := hp.b 1 0; refine ⟨Free.wn, ?_⟩; clear hp; go_simp; rfl
        apply Free.sv; intro a w1 hI hp
        · have e27 := hp.b 2 0; have e1 := hp.sl 1; simp at e1; refine ⟨hp.wt e27, ?_⟩; clear hp; go_simp; rfl
        apply Free.sv; intro a w1 hI hp
        · have e27 := hp.b 2 1; have e6 := hp.sl 6; simp at e6; refine ⟨hp.wt e27, ?_⟩; clear hp; go_simp; rfl
        apply Free.sv; intro a w1 hI hp
        · have e27 := hp.b 2 2; have e28 := hp.b 3 1; have e29 := hp.b 4 0; refine ⟨hp.wt e27, ?_⟩; clear hp; go_simp; rfl
        apply Free.sv; intro a w1 hI hp
        · have e27 := hp.b 2 3; have e30 := hp.b 5 0; refine ⟨hp.wt e27, ?_⟩; clear hp; go_simp; rfl
        apply Free.sv; intro a w1 hI hp
        · have e27 := hp.b 2 4; have e31 := hp.b 6 0; have kc0 := (hI.cell (p := ⟨b, off + k * 4, none⟩) hbl9).trans c0; refine ⟨hp.wt e27, ?_⟩; clear hp; go_simp; rfl
        apply Free.sv; intro a w1 hI hp
        · have e27 := hp.b 2 5; have e1 := hp.sl 1; simp at e1; refine ⟨hp.wt e27, ?_⟩; clear hp; go_simp; rfl
        apply Free.sv; intro a w1 hI hp
        · have e27 := hp.b 2 6; have e6 := hp.sl 6; simp at e6; refine ⟨hp.wt e27, ?_⟩; clear hp; go_simp; rfl
        apply Free.sv; intro a w1 hI hp
        · have e27 := hp.b 2 7; have e34 := hp.b 9 0; refine ⟨hp.wt e27, ?_⟩; clear hp; go_simp; rfl
        apply Free.sv; intro a w1 hI hp
        · have e27 := hp.b 2 8; have e33 := hp.b 8 2; have e35 := hp.b 10 0; refine ⟨hp.wt e27, ?_⟩; clear hp; go_simp; rfl
        apply Free.sv; intro a w1 hI hp
        · have e27 := hp.b 2 9; have e36 := hp.b 11 0; refine ⟨hp.wt e27, ?_⟩; clear hp; go_simp; rfl
        apply Free.sv; intro a w1 hI hp
        · have e27 := hp.b 2 10; have e37 := hp.b 12 0; have kd0 := (hI.cell (p := ⟨b, off + (k - 1) * 4, none⟩) hbl9).trans d0; refine ⟨hp.wt e27, ?_⟩; clear hp; go_simp; rfl
        apply Free.sv; intro a w1 hI hp
        · have e27 := hp.b 2 11; have e32 := hp.b 7 6; have e38 := hp.b 13 0; refine ⟨hp.wt e27, ?_⟩; clear hp; go_simp; rfl
        apply Free.sv; intro a w1 hI hp
        · have e27 := hp.b 2 12; have e39 := hp.b 14 0; refine ⟨hp.wt e27, ?_⟩; clear hp; go_simp; rfl
        apply Free.sv; intro a w1 hI hp
        · have e40 := hp.b 15 0; have e1 := hp.sl 1; simp at e1; refine ⟨hp.wt e40, ?_⟩; clear hp; go_simp; rfl
        apply Free.sv; intro a w1 hI hp
        · have e40 := hp.b 15 1; have e6 := hp.sl 6; simp at e6; refine ⟨hp.wt e40, ?_⟩; clear hp; go_simp; rfl
        apply Free.sv; intro a w1 hI hp
        · have e40 := hp.b 15 2; have e41 := hp.b 16 1; have e42 := hp.b 17 0; refine ⟨hp.wt e40, ?_⟩; clear hp; go_simp; rfl
        apply Free.sv; intro a w1 hI hp
        · have e40 := hp.b 15 3; have e43 := hp.b 18 0; refine ⟨hp.wt e40, ?_⟩; clear hp; go_simp; rfl
        apply Free.sv; intro a w1 hI hp
        · have e40 := hp.b 15 4; have e44 := hp.b 19 0; have kc0 := (hI.cell (p := ⟨b, off + k * 4, none⟩) hbl9).trans c0; refine ⟨hp.wt e40, ?_⟩; clear hp; go_simp; rfl
        apply Free.sv; intro a w1 hI hp
        · have e40 := hp.b 15 5; have e1 := hp.sl 1; simp at e1; refine ⟨hp.wt e40, ?_⟩; clear hp; go_simp; rfl
        apply Free.sv; intro a w1 hI hp
        · have e40 := hp.b 15 6; have e6 := hp.sl 6; simp at e6; refine ⟨hp.wt e40, ?_⟩; clear hp; go_simp; rfl
        apply Free.sv; intro a w1 hI hp
        · have e40 := hp.b 15 7; have e47 := hp.b 22 0; refine ⟨hp.wt e40, ?_⟩; clear hp; go_simp; rfl
        apply Free.sv; intro a w1 hI hp
        · have e40 := hp.b 15 8; have e46 := hp.b 21 2; have e48 := hp.b 23 0; refine ⟨hp.wt e40, ?_⟩; clear hp; go_simp; rfl
        apply Free.sv; intro a w1 hI hp
        · have e40 := hp.b 15 9; have e49 := hp.b 24 0; refine ⟨hp.wt e40, ?_⟩; clear hp; go_simp; rfl
        apply Free.sv; intro a w1 hI hp
        · have e40 := hp.b 15 10; have e50 := hp.b 25 0; have kd0 := (hI.cell (p := ⟨b, off + (k - 1) * 4, none⟩) hbl9).trans d0; refine ⟨hp.wt e40, ?_⟩; clear hp; go_simp; rfl
        apply Free.sv; intro a w1 hI hp
        · have e40 := hp.b 15 11; have e45 := hp.b 20 6; have e51 := hp.b 26 0; refine ⟨hp.wt e40, ?_⟩; clear hp; go_simp; rfl
        apply Free.sv; intro a w1 hI hp
        · have e40 := hp.b 15 12; have e52 := hp.b 27 0; refine ⟨hp.wt e40, ?_⟩; clear hp; go_simp; rfl
        apply Free.sv; intro a w1 hI hp
        · have e53 := hp.b 28 0; have e1 := hp.sl 1; simp at e1; refine ⟨hp.wt e53, ?_⟩; clear hp; go_simp; rfl
        apply Free.sv; intro a w1 hI hp
        · have e53 := hp.b 28 1; have e6 := hp.sl 6; simp at e6; refine ⟨hp.wt e53, ?_⟩; clear hp; go_simp; rfl
        apply Free.sv; intro a w1 hI hp
        · have e53 := hp.b 28 2; have e54 := hp.b 29 1; have e55 := hp.b 30 0; refine ⟨hp.wt e53, ?_⟩; clear hp; go_simp; rfl
        apply Free.sv; intro a w1 hI hp
        · have e53 := hp.b 28 3; have e56 := hp.b 31 0; refine ⟨hp.wt e53, ?_⟩; clear hp; go_simp; rfl
        apply Free.sv; intro a w1 hI hp
        · have e53 := hp.b 28 4; have e57 := hp.b 32 0; have kc1 := (hI.cell (p := ⟨b, off + k * 4 + 1, none⟩) hbl9).trans c1; refine ⟨hp.wt e53, ?_⟩; clear hp; go_simp; rfl
        apply Free.sv; intro a w1 hI hp
        · have e53 := hp.b 28 5; have e1 := hp.sl 1; simp at e1; refine ⟨hp.wt e53, ?_⟩; clear hp; go_simp; rfl
        apply Free.sv; intro a w1 hI hp
        · have e53 := hp.b 28 6; have e6 := hp.sl 6; simp at e6; refine ⟨hp.wt e53, ?_⟩; clear hp; go_simp; rfl
        apply Free.sv; intro a w1 hI hp
        · have e53 := hp.b 28 7; have e60 := hp.b 35 0; refine ⟨hp.wt e53, ?_⟩; clear hp; go_simp; rfl
        apply Free.sv; intro a w1 hI hp
        · have e53 := hp.b 28 8; have e59 := hp.b 34 2; have e61 := hp.b 36 0; refine ⟨hp.wt e53, ?_⟩; clear hp; go_simp; rfl
        apply Free.sv; intro a w1 hI hp
        · have e53 := hp.b 28 9; have e62 := hp.b 37 0; refine ⟨hp.wt e53, ?_⟩; clear hp; go_simp; rfl
        apply Free.sv; intro a w1 hI hp
        · have e53 := hp.b 28 10; have e63 := hp.b 38 0; have kd1 := (hI.cell (p := ⟨b, off + (k - 1) * 4 + 1, none⟩) hbl9).trans d1; refine ⟨hp.wt e53, ?_⟩; clear hp; go_simp; rfl
        apply Free.sv; intro a w1 hI hp
        · have e53 := hp.b 28 11; have e58 := hp.b 33 6; have e64 := hp.b 39 0; refine ⟨hp.wt e53, ?_⟩; clear hp; go_simp; rfl
        apply Free.sv; intro a w1 hI hp
        · have e40 := hp.b 15 25; have e53 := hp.b 28 12; have e65 := hp.b 40 0; refine ⟨hp.wt e40, ?_⟩; clear hp; go_simp; rfl
        apply Free.sv; intro a w1 hI hp
        · have e27 := hp.b 2 39; have e40 := hp.b 15 26; have e66 := hp.b 41 0; refine ⟨hp.wt e27, ?_⟩; clear hp; go_simp; rfl
        apply Free.sv; intro a w1 hI hp
        · have e27 := hp.b 2 40; have e67 := hp.b 42 0; refine ⟨Free.wn, ?_⟩; clear hp; go_simp; rfl
        refine Free.Seq.done (by simp) (fun wz hIz => ?_); simp only [List.reverse_cons, List.reverse_nil, List.nil_append, List.cons_append, Free.All, Free.eqF, forall_eq]
        skip
        simp only [Free.putL, Act.put, List.setIfInBounds_toArray, List.set_cons_zero, List.set_cons_succ]; have HBZ := Lib.hid (HB9.out.trans (hIz.mono (by have := HB9.out.size; omega))); clear hIz
        dsimp only [Exit.inBlock, Exit.then]
        go_wp2_with fail
        go_ret
        exact ⟨ret_int (by rw [HR0.out]), HBZ.out⟩
      · have HG := hgd (by simp only [behind, decide_eq_true_eq]; omega); have t3 : decide (xe ≤ pe) = false := by simpa using q3
        clear hbh hgd q2; refine Free.wp_seq (I := fun w' => Below wr9.heap.size wr9 w') (Gr := fun w1 w2 => Below w1.heap.size w1 w2) (by kernel_rfl) (by kernel_rfl) (Below.refl _ _).drew ?_; apply Free.sv; intro a w1 hI hp
        · have e6 := hp.sl 6; simp at e6; refine ⟨Free.wn, ?_⟩; clear hp; go_simp; rfl
        apply Free.sv; intro a w1 hI hp
        · have e25 := hp.b 0 0; refine ⟨Free.wn, ?_⟩; clear hp; go_simp; rfl
        apply Free.sv; intro a w1 hI hp
        · have e26 := hp.b 1 0; refine ⟨Free.wn, ?_⟩; clear hp; go_simp; rfl
        apply Free.sv; intro a w1 hI hp
        · have e27 := hp.b 2 0; have e1 := hp.sl 1; simp at e1; refine ⟨hp.wt e27, ?_⟩; clear hp; go_simp; rfl
        apply Free.sv; intro a w1 hI hp
        · have e27 := hp.b 2 1; have e6 := hp.sl 6; simp at e6; refine ⟨hp.wt e27, ?_⟩; clear hp; go_simp; rfl
        apply Free.sv; intro a w1 hI hp
        · have e27 := hp.b 2 2; have e28 := hp.b 3 1; have e29 := hp.b 4 0; refine ⟨hp.wt e27, ?_⟩; clear hp; go_simp; rfl
        apply Free.sv; intro a w1 hI hp
        · have e27 := hp.b 2 3; have e30 := hp.b 5 0; refine ⟨hp.wt e27, ?_⟩; clear hp; go_simp; rfl
        apply Free.sv; intro a w1 hI hp
        · have e27 := hp.b 2 4; have e31 := hp.b 6 0; have kc0 := (hI.cell (p := ⟨b, off + k * 4, none⟩) hbl9).trans c0; refine ⟨hp.wt e27, ?_⟩; clear hp; go_simp; rfl
        apply Free.sv; intro a w1 hI hp
        · have e27 := hp.b 2 5; have e1 := hp.sl 1; simp at e1; refine ⟨hp.wt e27, ?_⟩; clear hp; go_simp; rfl
        apply Free.sv; intro a w1 hI hp
        · have e27 := hp.b 2 6; have e6 := hp.sl 6; simp at e6; refine ⟨hp.wt e27, ?_⟩; clear hp; go_simp; rfl
        apply Free.sv; intro a w1 hI hp
        · have e27 := hp.b 2 7; have e34 := hp.b 9 0; refine ⟨hp.wt e27, ?_⟩; clear hp; go_simp; rfl
        apply Free.sv; intro a w1 hI hp
        · have e27 := hp.b 2 8; have e33 := hp.b 8 2; have e35 := hp.b 10 0; refine ⟨hp.wt e27, ?_⟩; clear hp; go_simp; rfl
        apply Free.sv; intro a w1 hI hp
        · have e27 := hp.b 2 9; have e36 := hp.b 11 0; refine ⟨hp.wt e27, ?_⟩; clear hp; go_simp; rfl
        apply Free.sv; intro a w1 hI hp
        · have e27 := hp.b 2 10; have e37 := hp.b 12 0; have kd0 := (hI.cell (p := ⟨b, off + (k - 1) * 4, none⟩) hbl9).trans d0; refine ⟨hp.wt e27, ?_⟩; clear hp; go_simp; rfl
        apply Free.sv; intro a w1 hI hp
        · have e27 := hp.b 2 11; have e32 := hp.b 7 6; have e38 := hp.b 13 0; refine ⟨hp.wt e27, ?_⟩; clear hp; go_simp; rfl
        apply Free.sv; intro a w1 hI hp
        · have e27 := hp.b 2 12; have e39 := hp.b 14 0; refine ⟨hp.wt e27, ?_⟩; clear hp; go_simp; rfl
        apply Free.sv; intro a w1 hI hp
        · have e40 := hp.b 15 0; have e1 := hp.sl 1; simp at e1; refine ⟨hp.wt e40, ?_⟩; clear hp; go_simp; rfl
        apply Free.sv; intro a w1 hI hp
        · have e40 := hp.b 15 1; have e6 := hp.sl 6; simp at e6; refine ⟨hp.wt e40, ?_⟩; clear hp; go_simp; rfl
        apply Free.sv; intro a w1 hI hp
        · have e40 := hp.b 15 2; have e41 := hp.b 16 1; have e42 := hp.b 17 0; refine ⟨hp.wt e40, ?_⟩; clear hp; go_simp; rfl
        apply Free.sv; intro a w1 hI hp
        · have e40 := hp.b 15 3; have e43 := hp.b 18 0; refine ⟨hp.wt e40, ?_⟩; clear hp; go_simp; rfl
        apply Free.sv; intro a w1 hI hp
        · have e40 := hp.b 15 4; have e44 := hp.b 19 0; have kc0 := (hI.cell (p := ⟨b, off + k * 4, none⟩) hbl9).trans c0; refine ⟨hp.wt e40, ?_⟩; clear hp; go_simp; rfl
        apply Free.sv; intro a w1 hI hp
        · have e40 := hp.b 15 5; have e1 := hp.sl 1; simp at e1; refine ⟨hp.wt e40, ?_⟩; clear hp; go_simp; rfl
        apply Free.sv; intro a w1 hI hp
        · have e40 := hp.b 15 6; have e6 := hp.sl 6; simp at e6; refine ⟨hp.wt e40, ?_⟩; clear hp; go_simp; rfl
        apply Free.sv; intro a w1 hI hp
        · have e40 := hp.b 15 7; have e47 := hp.b 22 0; refine ⟨hp.wt e40, ?_⟩; clear hp; go_simp; rfl
        apply Free.sv; intro a w1 hI hp
        · have e40 := hp.b 15 8; have e46 := hp.b 21 2; have e48 := hp.b 23 0; refine ⟨hp.wt e40, ?_⟩; clear hp; go_simp; rfl
        apply Free.sv; intro a w1 hI hp
        · have e40 := hp.b 15 9; have e49 := hp.b 24 0; refine ⟨hp.wt e40, ?_⟩; clear hp; go_simp; rfl
        apply Free.sv; intro a w1 hI hp
        · have e40 := hp.b 15 10; have e50 := hp.b 25 0; have kd0 := (hI.cell (p := ⟨b, off + (k - 1) * 4, none⟩) hbl9).trans d0; refine ⟨hp.wt e40, ?_⟩; clear hp; go_simp; rfl
        apply Free.sv; intro a w1 hI hp
        · have e40 := hp.b 15 11; have e45 := hp.b 20 6; have e51 := hp.b 26 0; refine ⟨hp.wt e40, ?_⟩; clear hp; go_simp; rfl
        apply Free.sv; intro a w1 hI hp
        · have e40 := hp.b 15 12; have e52 := hp.b 27 0; refine ⟨hp.wt e40, ?_⟩; clear hp; go_simp; rfl
        apply Free.sv; intro a w1 hI hp
        · have e53 := hp.b 28 0; have e1 := hp.sl 1; simp at e1; refine ⟨hp.wt e53, ?_⟩; clear hp; go_simp; rfl
        apply Free.sv; intro a w1 hI hp
        · have e53 := hp.b 28 1; have e6 := hp.sl 6; simp at e6; refine ⟨hp.wt e53, ?_⟩; clear hp; go_simp; rfl
        apply Free.sv; intro a w1 hI hp
        · have e53 := hp.b 28 2; have e54 := hp.b 29 1; have e55 := hp.b 30 0; refine ⟨hp.wt e53, ?_⟩; clear hp; go_simp; rfl
        apply Free.sv; intro a w1 hI hp
        · have e53 := hp.b 28 3; have e56 := hp.b 31 0; refine ⟨hp.wt e53, ?_⟩; clear hp; go_simp; rfl
        apply Free.sv; intro a w1 hI hp
        · have e53 := hp.b 28 4; have e57 := hp.b 32 0; have kc1 := (hI.cell (p := ⟨b, off + k * 4 + 1, none⟩) hbl9).trans c1; refine ⟨hp.wt e53, ?_⟩; clear hp; go_simp; rfl
        apply Free.sv; intro a w1 hI hp
        · have e53 := hp.b 28 5; have e1 := hp.sl 1; simp at e1; refine ⟨hp.wt e53, ?_⟩; clear hp; go_simp; rfl
        apply Free.sv; intro a w1 hI hp
        · have e53 := hp.b 28 6; have e6 := hp.sl 6; simp at e6; refine ⟨hp.wt e53, ?_⟩; clear hp; go_simp; rfl
        apply Free.sv; intro a w1 hI hp
        · have e53 := hp.b 28 7; have e60 := hp.b 35 0; refine ⟨hp.wt e53, ?_⟩; clear hp; go_simp; rfl
        apply Free.sv; intro a w1 hI hp
        · have e53 := hp.b 28 8; have e59 := hp.b 34 2; have e61 := hp.b 36 0; refine ⟨hp.wt e53, ?_⟩; clear hp; go_simp; rfl
        apply Free.sv; intro a w1 hI hp
        · have e53 := hp.b 28 9; have e62 := hp.b 37 0; refine ⟨hp.wt e53, ?_⟩; clear hp; go_simp; rfl
        apply Free.sv; intro a w1 hI hp
        · have e53 := hp.b 28 10; have e63 := hp.b 38 0; have kd1 := (hI.cell (p := ⟨b, off + (k - 1) * 4 + 1, none⟩) hbl9).trans d1; refine ⟨hp.wt e53, ?_⟩; clear hp; go_simp; rfl
        apply Free.sv; intro a w1 hI hp
        · have e53 := hp.b 28 11; have e58 := hp.b 33 6; have e64 := hp.b 39 0; refine ⟨hp.wt e53, ?_⟩; clear hp; go_simp; rfl
        apply Free.sv; intro a w1 hI hp
        · have e40 := hp.b 15 25; have e53 := hp.b 28 12; have e65 := hp.b 40 0; refine ⟨hp.wt e40, ?_⟩; clear hp; go_simp; rfl
        apply Free.sv; intro a w1 hI hp
        · have e27 := hp.b 2 39; have e40 := hp.b 15 26; have e66 := hp.b 41 0; refine ⟨hp.wt e27, ?_⟩; clear hp; go_simp; rfl
        apply Free.sv; intro a w1 hI hp
        · have e27 := hp.b 2 40; have e67 := hp.b 42 0; refine ⟨Free.wn, ?_⟩; clear hp; go_simp; rfl
        refine Free.Seq.done (by simp) (fun wz hIz => ?_); simp only [List.reverse_cons, List.reverse_nil, List.nil_append, List.cons_append, Free.All, Free.eqF, forall_eq]
        skip
        simp only [Free.putL, Act.put, List.setIfInBounds_toArray, List.set_cons_zero, List.set_cons_succ]; have HBZ := Lib.hid (HB9.out.trans (hIz.mono (by have := HB9.out.size; omega))); have c3 := (hIz.cell (p := ⟨b, off + k * 4 + 3, none⟩) hbl9).trans c3; have hsz := hIz.size; have hblz : b < wz.heap.size := by omega
        have hadd : IntKind.i64.wrap ((s : Int) + (nx : Int)) = ((s + nx : Nat) : Int) := by rw [IntWalk.i64_in _ (by omega)]; omega
        clear hIz c0 c1
        dsimp only [Exit.inBlock, Exit.then]
        go_wp2_with fail
        exact ⟨⟨k + 1, s + nx, by simp, by first | rfl | (congr 1; omega), by omega, by rw [HNX.out]; exact HG.out.2.2, HG.out.1, HG.out.2.1, HBZ.out⟩, by simp only [intOf]; omega⟩
    · have hkn : k = n := by omega
      subst hkn; have htk : l.take k = l := List.take_of_length_le (by rw [HL.out]; exact Nat.le_refl _); have hsg : s = gaps l := by rw [HS.out, htk]
      have hmt : marksB none l = true := by rw [← htk]; exact HM.out
      by_cases hg : 256 < s
      · have HR0 : Hid (R = 6) := by show R = 6; rw [HRR.out, fromE, if_neg (by rw [hmt]; simp), if_pos (by rw [← hsg]; exact hg)]
        have t0 : decide ((256 : Int) < (s : Int)) = true := by simp; omega
        clear htk hsg hmt hg
        go_wp2_with fail
        go_ret
        exact ⟨ret_int (by rw [HR0.out]), HB.out⟩
      · have HR0 : Hid (R = 0) := by show R = 0; rw [HRR.out, fromE, if_neg (by rw [hmt]; simp), if_neg (by rw [← hsg]; exact hg)]
        have t0 : decide ((256 : Int) < (s : Int)) = false := by simp; omega
        clear htk hsg hmt hg
        go_wp2_with fail
        go_ret
        exact ⟨ret_int (by rw [HR0.out]), HB.out⟩
end Go.Proofs.Ytcnlgcmooegfkaa
namespace Go.Proofs.Ytcnlgcmooegfkaa
open Go.RowKit Mg Sn

set_option maxRecDepth 100000 in
set_option maxHeartbeats 2000000 in
theorem rone_any (A : Option Addr) (m c B : Nat) (l : List UInt8) (x : Int) (w : World) (hO : OwnB w B 5 (.slice A m c) l) (hl : l.length = m) (hm : m ≤ 1000000000000) (hB : B ≤ w.heap.size) (h0 : 0 ≤ x) (h1 : x ≤ 255) :
    Calls Try.prog 43 #[.slice A m c, .int .i64 x] w fun e w' => ∃ A' c', e = .returned (.slice A' (m + 1) c') ∧ OwnB w' B 5 (.slice A' (m + 1) c') (l ++ [b1 x]) ∧ Below B w w' ∧ w.grownBy w' (Value.ownBlock (.slice A m c)) := by
  have hw : IntKind.u8.wrap x = x := IntWalk.u8_in _ (by omega); have hw2 : x % 256 = x := by omega
  have HO := Lib.hid (OwnB.row hO hl); have HL := Lib.hid hl; have HX : Hid (bv (b1 x) = .int .u8 x) := bv1 h0 h1; clear hO hl h0 h1
  go_enter Try.func43, Try.ntmps43
  go_wp2_with (first | ((with_reducible show wpList _ _ _ (⟨some 9, _, _, _, _, _⟩ :: _) _ _); refine wpList_app _ rfl elemB (.tmp 5) (.tmp 8) rfl rfl (HO.out.alloc _) rfl (Src.new' w w.heap.size rfl [.int .u8 x] _ 1 1 rfl (by simp [Value.oneCell'])) (m + 1) rfl (by omega) (by simp; omega) ?_; intro A1 c1 w1 hown1 hg1 _; have HO1 := Lib.hid hown1; have HG1 := Lib.hid hg1; clear hown1 hg1) | fail)
  go_ret
  have hba : Below B w (w.alloc (.cells #[.int .u8 x] 5)) := (Below.refl _ _).alloc hB _; refine ⟨A1, c1, rfl, OwnB.of HO1.out _ (by rw [bs_append]; simp [bs, HX.out]), below_app' hba (HO.out.alloc _) HG1.out (Nat.le_refl _) (by simp; omega), ?_⟩; have hg := HG1.out; exact ⟨hg.os, hg.tape, hg.output, by have := hg.size; simp at this; omega, fun k hk hne => (hg.block k (by simp; omega) hne).trans (Below.heap_alloc w _ k hk)⟩

set_option maxRecDepth 100000 in
set_option maxHeartbeats 2000000 in
theorem rtwo_any (A : Option Addr) (m c B : Nat) (l : List UInt8) (x : Int) (w : World) (hO : OwnB w B 5 (.slice A m c) l) (hl : l.length = m) (hm : m ≤ 1000000000000) (hB : B ≤ w.heap.size) (h0 : 0 ≤ x) (h1 : x ≤ 65535) :
    Calls Try.prog 42 #[.slice A m c, .int .i64 x] w fun e w' => ∃ A' c', e = .returned (.slice A' (m + 2) c') ∧ OwnB w' B 5 (.slice A' (m + 2) c') (l ++ be x.toNat 2) ∧ Below B w w' ∧ w.grownBy w' (Value.ownBlock (.slice A m c)) := by
  obtain ⟨n, rfl⟩ : ∃ n : Nat, x = n := ⟨x.toNat, (Int.toNat_of_nonneg h0).symm⟩; have hw : IntKind.u8.wrap ((n : Int) / 256) = (n : Int) / 256 := IntWalk.u8_in _ (by omega); have hw2 : IntKind.u8.wrap ((n : Int) % 256) = (n : Int) % 256 := IntWalk.u8_in _ (by omega); have hw3 : (n : Int) / 256 % 256 = (n : Int) / 256 := by omega
  have HO := Lib.hid (OwnB.row hO hl); have HL := Lib.hid hl; have hnn : 0 ≤ (n : Int) := h0; have HX : Hid ([Value.int .u8 ((n : Int) / 256), Value.int .u8 ((n : Int) % 256)] = bs (be n 2)) := by
    show _ = _
    simp only [be, beB, bs, bv, List.map_cons, List.map_nil, UInt8.toNat_ofNat']
    congr 2
    · omega
    · congr 2
      omega
  clear hO hl
  go_enter Try.func42, Try.ntmps42
  go_wp2_with (first | ((with_reducible show wpList _ _ _ (⟨some 13, _, _, _, _, _⟩ :: _) _ _); refine wpList_app _ rfl elemB (.tmp 5) (.tmp 12) rfl rfl (HO.out.alloc _) rfl (Src.new' w w.heap.size rfl [.int .u8 ((n : Int) / 256), .int .u8 ((n : Int) % 256)] _ 2 1 rfl (by simp [Value.oneCell'])) (m + 2) rfl (by omega) (by simp; omega) ?_; intro A1 c1 w1 hown1 hg1 _; have HO1 := Lib.hid hown1; have HG1 := Lib.hid hg1; clear hown1 hg1) | fail)
  go_ret
  have hba : Below B w (w.alloc (.cells #[.int .u8 ((n : Int) / 256), .int .u8 ((n : Int) % 256)] 5)) := (Below.refl _ _).alloc hB _; refine ⟨A1, c1, rfl, OwnB.of HO1.out _ (by rw [bs_append, Int.toNat_natCast, ← HX.out]), below_app' hba (HO.out.alloc _) HG1.out (Nat.le_refl _) (by simp; omega), ?_⟩; have hg := HG1.out; exact ⟨hg.os, hg.tape, hg.output, by have := hg.size; simp at this; omega, fun k hk hne => (hg.block k (by simp; omega) hne).trans (Below.heap_alloc w _ k hk)⟩

set_option maxRecDepth 100000 in
set_option maxHeartbeats 2000000 in
theorem rpow32 (w : World) : Calls Try.prog 63 #[.int .i64 32] w fun e w' => e = .returned (.int .u64 4294967296) ∧ Below w.heap.size w w' := by
  go_enter Try.func63, Try.ntmps63
  go_wp2_with fail
  go_loopw [3, 4] (fun y i wr => ∃ k : Nat, i = .int .i64 k ∧ y = .int .u64 ((2 ^ k : Nat) : Int) ∧ k ≤ 32 ∧ Hid (Below w.heap.size w wr)) (fun _ i _ => 32 - (intOf i).toNat)
  case atStart => exact ⟨0, rfl, rfl, by omega, Below.refl _ _⟩
  case round =>
    obtain ⟨k, rfl, rfl, hk, hb⟩ := hrel
    by_cases hlt : k < 32
    · have hp : 2 ^ k ≤ 2 ^ 31 := Nat.pow_le_pow_right (by omega) (by omega); have hp2 : 2 ^ (k + 1) = 2 ^ k * 2 := Nat.pow_succ ..; obtain ⟨P, hP⟩ : ∃ P, P = 2 ^ k := ⟨_, rfl⟩; rw [← hP] at hp hp2 ⊢; have HP2 := Lib.hid hp2; have hwr : IntKind.u64.wrap ((P : Int) * 2) = (P : Int) * 2 := IntWalk.u64_in _ (by omega); clear hP hp2
      go_wp2_with fail
      exact ⟨⟨k + 1, by simp, by rw [HP2.out]; first | rfl | (congr 1; omega), by omega, hb⟩, by simp only [intOf]; omega⟩
    · have hkn : k = 32 := by omega
      subst hkn
      go_wp2_with fail
      go_ret
      exact ⟨by simp, hb.out⟩
theorem rfits32 (n : Nat) (w : World) (hn : n < 4294967296) : Calls Try.prog 45 #[.int .u64 n, .int .i64 32] w fun e w' => e = .returned (.bool true) ∧ Below w.heap.size w w' := by
  have t0 : decide ((n : Int) < 4294967296) = true := by simp; omega
  go_enter Try.func45, Try.ntmps45
  go_wp2_with fail
  refine (rpow32 _).mono ?_; rintro e w' ⟨rfl, hb⟩; have HB := Lib.hid hb; clear hb
  go_wp2_with fail
  go_ret
  exact ⟨rfl, HB.out⟩

theorem src_cells4 {w : World} {p : Nat} {cs : List Value} {T : TypeId} {fr : Nat × Nat} (h : w.heap[p]? = some (.cells cs.toArray T fr)) (hm : cs.length = 4) (h1 : ∀ u ∈ cs, u.oneCell' = true) : Src w (some ⟨p, 0, none⟩) 4 1 cs :=
  ⟨by rw [hm], fun _ => ⟨⟨p, 0, none⟩, rfl, fun j u hu => by
    rw [add_none, cell_of_cells h]
    simpa using hu⟩, h1⟩
set_option maxRecDepth 100000 in
set_option maxHeartbeats 2000000 in
/-- the document's Put of a number in four bytes -/
theorem rput4 (A : Option Addr) (m c : Nat) (l : List UInt8) (n : Nat) (w : World) (hR : Rd w A m c l) (hm : m ≤ 1000000000000) (hn : n < 4294967296) :
    Calls Try.prog 26 #[.slice A m c, .int .u64 n, .int .i64 4] w fun e w' => ∃ A' c', e = .returned (.tuple #[.slice A' (m + 4) c', .int .i64 0]) ∧ OwnB w' w.heap.size 5 (.slice A' (m + 4) c') (l ++ be n 4) ∧ Below w.heap.size w w' := by
  have HR := Lib.hid hR; have HL := Lib.hid hR.len; have HFT := Lib.hid (fun W => rfits32 n W hn); clear hR
  go_enter Try.func26, Try.ntmps26
  go_wp2_with fail
  refine (HFT.out _).mono ?_; rintro e1 w1 ⟨rfl, hb1⟩; have HB1 := Lib.hid hb1; have hmk : (Instr.makeSlice 28 (.int .i64 4) (.int .i64 4)).run Try.prog w1 = .ok (.slice (some ⟨w1.heap.size, 0, none⟩) 4 4) (w1.alloc (.cells #[.int .u8 0, .int .u8 0, .int .u8 0, .int .u8 0] 5)) := by
    have h := run_make_row' (P := Try.prog) 28 5 (.int .u8 0) 1 Try.underlying28 (by kernel_rfl) rfl .i64 .i64 4 (by omega) (by omega) w1; rw [show madeCells #[Value.int .u8 0] 4 = #[.int .u8 0, .int .u8 0, .int .u8 0, .int .u8 0] by kernel_rfl] at h; exact h
  have hnn : (0 : Int) ≤ (n : Int) := by omega
  have h64 : (n : Int) < 18446744073709551616 := by omega
  clear hb1
  go_wp2_with fail
  refine Go.wp_loop_rounds 5 ?_; rw [rounds_succ]
  go_wp2_with fail
  rw [rounds_succ]
  go_wp2_with fail
  rw [rounds_succ]
  go_wp2_with fail
  rw [rounds_succ]
  go_wp2_with fail
  rw [rounds_succ]; have hz1 := HB1.out.size
  go_wp2_with (first
    | ((with_reducible show wpList _ _ _ (⟨some 40, _, _, _, _, _⟩ :: _) _ _); refine wpList_app _ rfl elemB (.tmp 38) (.tmp 39) rfl rfl (own_empty _ w.heap.size (w1.heap.size + 1) _ 1 (by simp) (by omega)) rfl ((((HR.out.below HB1.out).stays (Stays.alloc w1 _)).stays (Stays.alloc _ _)).src) m (by omega) (by omega) (by simp; omega) ?_; intro A2 c2 w2 hown2 hg2 _; have HO2 := Lib.hid hown2; have HG2 := Lib.hid hg2; have HT2 : Hid (w2.heap[w1.heap.size]? = some (.cells ([.int .u8 ((n : Int) / 256 / 256 / 256 % 256), .int .u8 ((n : Int) / 256 / 256 % 256), .int .u8 ((n : Int) / 256 % 256), .int .u8 ((n : Int) % 256)]).toArray 5 (0, 0))) := Lib.hid ((hg2.block w1.heap.size (by simp; omega) (show some w1.heap.size ≠ Value.ownBlock (.slice (some ⟨w1.heap.size + 1, 0, none⟩) 0 0) by simp [Value.ownBlock])).trans ((Below.heap_alloc _ _ _ (by simp)).trans (heap_alloc_new w1 _))); have HB2 := Lib.hid (below_app' (((HB1.out).alloc hz1 _).alloc (by simp; omega) _) (own_empty _ w.heap.size (w1.heap.size + 1) _ 1 (by simp) (by omega)) hg2 (Nat.le_refl _) (by simp; omega)); clear hown2 hg2)
    | ((with_reducible show wpList _ _ _ (⟨some 43, _, _, _, _, _⟩ :: _) _ _); refine wpList_app _ rfl elemB (.tmp 41) (.tmp 42) rfl rfl HO2.out rfl (src_cells4 HT2.out rfl (by simp [Value.oneCell'])) (m + 4) rfl (by omega) (by have := HB2.out.size; omega) ?_; intro A3 c3 w3 hown3 hg3 _; have HO3 := Lib.hid hown3; have HB3 := Lib.hid (below_app' HB2.out HO2.out hg3 (Nat.le_refl _) (by have := HB2.out.size; omega)); clear hown3 hg3)
    | fail)
  go_ret2
  have e2 : bs (l ++ be n 4) = [] ++ bs l ++ [.int .u8 ((n : Int) / 256 / 256 / 256 % 256), .int .u8 ((n : Int) / 256 / 256 % 256), .int .u8 ((n : Int) / 256 % 256), .int .u8 ((n : Int) % 256)] := by
    rw [bs_append]; simp [be, beB, bs, bv]; omega
  exact ⟨A3, c3, rfl, OwnB.of HO3.out _ e2.symm, HB3.out⟩
end Go.Proofs.Ytcnlgcmooegfkaa
