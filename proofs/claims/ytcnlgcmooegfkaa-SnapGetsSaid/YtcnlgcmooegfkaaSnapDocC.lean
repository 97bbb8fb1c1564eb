/-
  ARE TWO STATES THE SAME? the document's walks.
  DOES THE PROGRAM ANSWER AT ALL? a state, put and got.
  WHAT GET GAVE, PUT AGAIN.
  THE DOCUMENT's TESTS OF A STATE: the messages.
  THE DOCUMENT's TESTS OF A STATE: all of it.
  THE DOCUMENT's BYTES OF A STATE: the walk of body.
  THE DOCUMENT's PUT OF A STATE.
-/
import Derived.Test.YtcnlgcmooegfkaaSnapDocA
import Derived.Test.YtcnlgcmooegfkaaSnapMem
import Derived.Test.YtcnlgcmooegfkaaMsgSame
import Derived.Test.YtcnlgcmooegfkaaSnapFrom
import Derived.Test.YtcnlgcmooegfkaaSnapGet
import Derived.Test.YtcnlgcmooegfkaaSnapCheck
import Derived.Test.YtcnlgcmooegfkaaMsgPuts
import Derived.Test.YtcnlgcmooegfkaaFlagC
import Derived.Test.YtcnlgcmooegfkaaSnapPut
import Derived.Test.YtcnlgcmooegfkaaCrcMade
namespace Go.Proofs.Ytcnlgcmooegfkaa
open Go.RowKit Mg Sn

theorem drop_same {α : Type} [DecidableEq α] {a b : List α} {k : Nat} {x y : α} (hx : a[k]? = some x) (hy : b[k]? = some y) : decide (a.drop k = b.drop k) = (decide (x = y) && decide (a.drop (k + 1) = b.drop (k + 1))) := by
  obtain ⟨h1, rfl⟩ := List.getElem?_eq_some_iff.1 hx; obtain ⟨h2, rfl⟩ := List.getElem?_eq_some_iff.1 hy; rw [List.drop_eq_getElem_cons h1, List.drop_eq_getElem_cons h2, Bool.eq_iff_iff]; simp only [decide_eq_true_eq, Bool.and_eq_true, List.cons.injEq]
theorem drop_done {α : Type} [DecidableEq α] {a b : List α} {n : Nat} (ha : a.length = n) (hb : b.length = n) : decide (a.drop n = b.drop n) = true := by
  rw [List.drop_of_length_le (by omega), List.drop_of_length_le (by omega)]; simp

set_option maxRecDepth 100000 in
set_option maxHeartbeats 4000000 in
theorem rsameall_any (la lb : List Ms) (A : Option Addr) (n c : Nat) (A' : Option Addr) (n' c' B B' : Nat) (w : World) (hA : RdE EMs 5 w B A n c la) (hB : RdE EMs 5 w B' A' n' c' lb) :
    Calls Try.prog 30 #[.slice A n c, .slice A' n' c'] w fun e w' => e = .returned (.bool (decide (la = lb))) ∧ Below w.heap.size w w' := by
  have hla := hA.len; have hlb := hB.len; have hbig := hA.big
  by_cases hnn : n = n'
  rotate_left
  · have hne : decide (la = lb) = false := decide_eq_false fun h => by rw [h] at hla; omega
    have t0 : ((n : Int) != (n' : Int)) = true := by simp; omega
    rw [hne]; clear hA hB hla hlb hbig hne
    go_enter Try.func30, Try.ntmps30
    go_wp2_with fail
    go_ret
    exact ⟨rfl, Below.refl _ _⟩
  subst hnn; obtain ⟨R, hR⟩ : ∃ R, R = decide (la = lb) := ⟨_, rfl⟩; rw [← hR]; have H0 : Hid (R = decide (la.drop 0 = lb.drop 0)) := by show R = _; rw [hR, List.drop_zero, List.drop_zero]
  have HA := Lib.hid hA; have HB := Lib.hid hB; have HLA := Lib.hid hla; have HLB := Lib.hid hlb; clear hA hB hla hlb hR
  go_enter Try.func30, Try.ntmps30
  go_wp2_with fail
  go_loopw [5] (fun i wr => ∃ k : Nat, i = .int .i64 k ∧ k ≤ n ∧ Hid (R = decide (la.drop k = lb.drop k) ∧ Below w.heap.size w wr)) (fun i _ => n - (intOf i).toNat)
  case atStart => exact ⟨0, rfl, Nat.zero_le _, H0.out, Below.refl _ _⟩
  case round =>
    obtain ⟨k, rfl, hk, hq, hb⟩ := hrel; have HQ := Lib.hid hq; have HB0 := Lib.hid hb; clear hq hb
    by_cases hlt : k < n
    · obtain ⟨b, off, x, cs, rfl, hBb, hbl, hx, hcs, hlen, hcell⟩ := (HA.out.below keeps_ms HB0.out).at' hlt; obtain ⟨Ax, cx, rfl, hrx⟩ := hcs; have c0 := hcell 0 _ rfl; have c1 := hcell 1 _ rfl; have c2 := hcell 2 _ rfl; have c3 := hcell 3 _ rfl; have c4 := hcell 4 _ rfl; rw [Nat.add_zero] at c0; obtain ⟨b', off', y, cs', rfl, hBb', hbl', hy, hcs', hlen', hcell'⟩ := (HB.out.below keeps_ms HB0.out).at' hlt; obtain ⟨Ay, cy, rfl, hry⟩ := hcs'; have d0 := hcell' 0 _ rfl; have d1 := hcell' 1 _ rfl; have d2 := hcell' 2 _ rfl; have d3 := hcell' 3 _ rfl; have d4 := hcell' 4 _ rfl; rw [Nat.add_zero] at d0; rw [drop_same hx hy] at HQ; obtain ⟨⟨xo, xd, xe, xc⟩, xl⟩ := x; obtain ⟨⟨yo, yd, ye, yc⟩, yl⟩ := y; simp only at c0 c1 c2 c3 c4 d0 d1 d2 d3 d4; obtain ⟨BB, hBB⟩ : ∃ BB, BB = decide ((⟨⟨xo, xd, xe, xc⟩, xl⟩ : Ms) = ⟨⟨yo, yd, ye, yc⟩, yl⟩) := ⟨_, rfl⟩; have HCS : Hid (∀ w' : World, Below wr.heap.size wr w' → Calls Try.prog 56 #[.agg #[.int .i64 xo, .int .i64 xd, .int .i64 xe, .int .i64 xc, .slice Ax xl.length cx], .agg #[.int .i64 yo, .int .i64 yd, .int .i64 ye, .int .i64 yc, .slice Ay yl.length cy]] w' fun e w'' => e = .returned (.bool BB) ∧ Below w'.heap.size w' w'') := fun w' h => by
        have h1 := rsame_any ⟨xo, xd, xe, xc⟩ ⟨yo, yd, ye, yc⟩ Ax Ay xl.length yl.length cx cy xl yl w' (hrx.1.below h) (hry.1.below h); have e1 : (decide ((⟨xo, xd, xe, xc⟩ : Mid) = ⟨yo, yd, ye, yc⟩) && (xl == yl)) = BB := by
          rw [hBB, Bool.eq_iff_iff]; simp
        rw [e1] at h1; exact h1
      rw [← hBB] at HQ; obtain ⟨nx, hnx⟩ : ∃ nx, nx = xl.length := ⟨_, rfl⟩; obtain ⟨ny, hny⟩ : ∃ ny, ny = yl.length := ⟨_, rfl⟩; rw [← hnx] at c4 HCS; rw [← hny] at d4 HCS; have hkb : k < 281474976710656 := by omega
      clear hcell hcell' hlen hlen' hx hy hrx hry hBB hnx hny
      go_wp2_with fail
      refine Free.wp_seq (I := fun w' => Below wr.heap.size wr w') (Gr := fun w1 w2 => Below w1.heap.size w1 w2) (by kernel_rfl) (by kernel_rfl) (Below.refl _ _).drew ?_
      apply Free.sv; intro a w1 hI hp
      · have e0 := hp.sl 0; simp at e0; refine ⟨Free.wn, ?_⟩; clear hp; go_simp; rfl
      apply Free.sv; intro a w1 hI hp
      · have e5 := hp.sl 5; simp at e5; refine ⟨Free.wn, ?_⟩; clear hp; go_simp; rfl
      apply Free.sv; intro a w1 hI hp
      · have e17 := hp.b 0 1; have e18 := hp.b 1 0; refine ⟨Free.wn, ?_⟩; clear hp; go_simp; rfl
      apply Free.sv; intro a w1 hI hp
      · have e19 := hp.b 2 0; have kc0 := (hI.cell (p := ⟨b, off + k * 5, none⟩) hbl).trans c0; have kc1 := (hI.cell (p := ⟨b, off + k * 5 + 1, none⟩) hbl).trans c1; have kc2 := (hI.cell (p := ⟨b, off + k * 5 + 2, none⟩) hbl).trans c2; have kc3 := (hI.cell (p := ⟨b, off + k * 5 + 3, none⟩) hbl).trans c3; have kc4 := (hI.cell (p := ⟨b, off + k * 5 + 4, none⟩) hbl).trans c4; refine ⟨Free.wn, ?_⟩; clear hp; go_simp; rfl
      apply Free.sv; intro a w1 hI hp
      · have e1 := hp.sl 1; simp at e1; refine ⟨Free.wn, ?_⟩; clear hp; go_simp; rfl
      apply Free.sv; intro a w1 hI hp
      · have e5 := hp.sl 5; simp at e5; refine ⟨Free.wn, ?_⟩; clear hp; go_simp; rfl
      apply Free.sv; intro a w1 hI hp
      · have e21 := hp.b 4 1; have e22 := hp.b 5 0; refine ⟨Free.wn, ?_⟩; clear hp; go_simp; rfl
      apply Free.sv; intro a w1 hI hp
      · have e23 := hp.b 6 0; have kd0 := (hI.cell (p := ⟨b', off' + k * 5, none⟩) hbl').trans d0; have kd1 := (hI.cell (p := ⟨b', off' + k * 5 + 1, none⟩) hbl').trans d1; have kd2 := (hI.cell (p := ⟨b', off' + k * 5 + 2, none⟩) hbl').trans d2; have kd3 := (hI.cell (p := ⟨b', off' + k * 5 + 3, none⟩) hbl').trans d3; have kd4 := (hI.cell (p := ⟨b', off' + k * 5 + 4, none⟩) hbl').trans d4; refine ⟨Free.wn, ?_⟩; clear hp; go_simp; rfl
      refine Free.Seq.call (T := Free.eqF (.bool BB)) (fun _ _ _ h _ => h) (fun a w1 hI hp => ?_) ?_
      · have e20 := hp.b 3 4; have e24 := hp.b 7 0; refine ⟨Free.wn, 56, #[.agg #[.int .i64 xo, .int .i64 xd, .int .i64 xe, .int .i64 xc, .slice Ax nx cx], .agg #[.int .i64 yo, .int .i64 yd, .int .i64 ye, .int .i64 yc, .slice Ay ny cy]], ?_, ?_⟩
        · clear hp; go_simp
        · refine (HCS.out _ hI).mono ?_; rintro e w' ⟨rfl, hb⟩; exact ⟨_, rfl, rfl, hb, hI.trans (hb.mono hI.size)⟩
      apply Free.sv; intro a w1 hI hp
      · have e25 := hp.b 8 0; refine ⟨Free.wn, ?_⟩; clear hp; go_simp; rfl
      refine Free.Seq.done (by simp) (fun wz hIz => ?_); simp only [List.reverse_cons, List.reverse_nil, List.nil_append, List.cons_append, Free.All, Free.eqF, forall_eq]
      skip
      simp only [Free.putL, Act.put, List.setIfInBounds_toArray, List.set_cons_zero, List.set_cons_succ]; have HIZ := Lib.hid hIz; clear hIz
      dsimp only [Exit.inBlock, Exit.then]
      have HBZ := Lib.hid (HB0.out.trans (HIZ.out.mono HB0.out.size)); clear c0 c1 c2 c3 c4 d0 d1 d2 d3 d4
      cases BB
      · go_wp2_with fail
        go_ret
        exact ⟨ret_bool (by rw [HQ.out]; rfl), HBZ.out⟩
      · go_wp2_with fail
        exact ⟨⟨k + 1, by simp, by omega, by rw [HQ.out]; rfl, HBZ.out⟩, by simp only [intOf]; omega⟩
    · have hk2 : k = n := by omega
      subst hk2
      go_wp2_with fail
      go_ret
      exact ⟨ret_bool (by rw [HQ.out]; exact (drop_done HLA.out HLB.out).symm), HB0.out⟩
set_option maxRecDepth 100000 in
set_option maxHeartbeats 8000000 in
theorem rsamemarks_any (la lb : List Mk) (A : Option Addr) (n c : Nat) (A' : Option Addr) (n' c' B B' : Nat) (w : World) (hA : RdE EMk 4 w B A n c la) (hB : RdE EMk 4 w B' A' n' c' lb) :
    Calls Try.prog 31 #[.slice A n c, .slice A' n' c'] w fun e w' => e = .returned (.bool (decide (la = lb))) ∧ Below w.heap.size w w' := by
  have hla := hA.len; have hlb := hB.len; have hbig := hA.big
  by_cases hnn : n = n'
  rotate_left
  · have hne : decide (la = lb) = false := decide_eq_false fun h => by rw [h] at hla; omega
    have t0 : ((n : Int) != (n' : Int)) = true := by simp; omega
    rw [hne]; clear hA hB hla hlb hbig hne
    go_enter Try.func31, Try.ntmps31
    go_wp2_with fail
    go_ret
    exact ⟨rfl, Below.refl _ _⟩
  subst hnn; obtain ⟨R, hR⟩ : ∃ R, R = decide (la = lb) := ⟨_, rfl⟩; rw [← hR]; have H0 : Hid (R = decide (la.drop 0 = lb.drop 0)) := by show R = _; rw [hR, List.drop_zero, List.drop_zero]
  have HA := Lib.hid hA; have HB := Lib.hid hB; have HLA := Lib.hid hla; have HLB := Lib.hid hlb; clear hA hB hla hlb hR
  go_enter Try.func31, Try.ntmps31
  go_wp2_with fail
  go_loopw [5] (fun i wr => ∃ k : Nat, i = .int .i64 k ∧ k ≤ n ∧ Hid (R = decide (la.drop k = lb.drop k) ∧ Below w.heap.size w wr)) (fun i _ => n - (intOf i).toNat)
  case atStart => exact ⟨0, rfl, Nat.zero_le _, H0.out, Below.refl _ _⟩
  case round =>
    obtain ⟨k, rfl, hk, hq, hb⟩ := hrel; have HQ := Lib.hid hq; have HB0 := Lib.hid hb; clear hq hb
    by_cases hlt : k < n
    · obtain ⟨b, off, x, cs, rfl, hBb, hbl, hx, hcs, hlen, hcell⟩ := (HA.out.below keeps_mk HB0.out).at' hlt; obtain ⟨Ax, cx, rfl, hrx⟩ := hcs; have c0 := hcell 0 _ rfl; have c1 := hcell 1 _ rfl; have c2 := hcell 2 _ rfl; have c3 := hcell 3 _ rfl; rw [Nat.add_zero] at c0; obtain ⟨b', off', y, cs', rfl, hBb', hbl', hy, hcs', hlen', hcell'⟩ := (HB.out.below keeps_mk HB0.out).at' hlt; obtain ⟨Ay, cy, rfl, hry⟩ := hcs'; have d0 := hcell' 0 _ rfl; have d1 := hcell' 1 _ rfl; have d2 := hcell' 2 _ rfl; have d3 := hcell' 3 _ rfl; rw [Nat.add_zero] at d0; rw [drop_same hx hy] at HQ; obtain ⟨xo, xe, xu, xm⟩ := x; obtain ⟨yo, ye, yu, ym⟩ := y; simp only at c0 c1 c2 c3 d0 d1 d2 d3; have hbx := hrx.big; simp only at hrx hry hbx; obtain ⟨nx, hnx⟩ : ∃ nx, nx = xm.length := ⟨_, rfl⟩; obtain ⟨ny, hny⟩ : ∃ ny, ny = ym.length := ⟨_, rfl⟩; rw [← hnx] at c3 hrx hbx; rw [← hny] at d3 hry; have HRX := Lib.hid hrx; have HRY := Lib.hid hry; have HNX := Lib.hid hnx; have HNY := Lib.hid hny; have hkb : k < 281474976710656 := by omega
      have hne : (xo ≠ yo ∨ xe ≠ ye ∨ xu ≠ yu ∨ nx ≠ ny) → Hid (R = false) := fun h => by
        have e1 : decide ((⟨xo, xe, xu, xm⟩ : Mk) = ⟨yo, ye, yu, ym⟩) = false := decide_eq_false fun e => by
          injection e with e1 e2 e3 e4
          rw [e4, ← HNY.out] at hnx
          rcases h with h | h | h | h
          · exact h e1
          · exact h e2
          · exact h e3
          · exact h hnx
        show R = false
        rw [HQ.out, e1, Bool.false_and]
      clear hcell hcell' hlen hlen' hx hy hrx hry hnx hny
      by_cases ho : xo = yo
      rotate_left
      · have HN := hne (.inl ho); have t0 : (xo != yo) = true := by simpa using ho
        clear hne
        go_wp2_with fail
        refine Free.wp_seq (I := fun w' => Below wr.heap.size wr w') (Gr := fun w1 w2 => Below w1.heap.size w1 w2) (by kernel_rfl) (by kernel_rfl) (Below.refl _ _).drew ?_
        apply Free.sv; intro a w1 hI hp
        · have e0 := hp.sl 0; simp at e0; refine ⟨Free.wn, ?_⟩; clear hp; go_simp; rfl
        apply Free.sv; intro a w1 hI hp
        · have e5 := hp.sl 5; simp at e5; refine ⟨Free.wn, ?_⟩; clear hp; go_simp; rfl
        apply Free.sv; intro a w1 hI hp
        · have e18 := hp.b 0 1; have e19 := hp.b 1 0; refine ⟨Free.wn, ?_⟩; clear hp; go_simp; rfl
        apply Free.sv; intro a w1 hI hp
        · have e20 := hp.b 2 0; refine ⟨Free.wn, ?_⟩; clear hp; go_simp; rfl
        apply Free.sv; intro a w1 hI hp
        · have e21 := hp.b 3 0; have kc0 := (hI.cell (p := ⟨b, off + k * 4, none⟩) hbl).trans c0; refine ⟨Free.wn, ?_⟩; clear hp; go_simp; rfl
        apply Free.sv; intro a w1 hI hp
        · have e1 := hp.sl 1; simp at e1; refine ⟨Free.wn, ?_⟩; clear hp; go_simp; rfl
        apply Free.sv; intro a w1 hI hp
        · have e5 := hp.sl 5; simp at e5; refine ⟨Free.wn, ?_⟩; clear hp; go_simp; rfl
        apply Free.sv; intro a w1 hI hp
        · have e23 := hp.b 5 1; have e24 := hp.b 6 0; refine ⟨Free.wn, ?_⟩; clear hp; go_simp; rfl
        apply Free.sv; intro a w1 hI hp
        · have e25 := hp.b 7 0; refine ⟨Free.wn, ?_⟩; clear hp; go_simp; rfl
        apply Free.sv; intro a w1 hI hp
        · have e26 := hp.b 8 0; have kd0 := (hI.cell (p := ⟨b', off' + k * 4, none⟩) hbl').trans d0; refine ⟨Free.wn, ?_⟩; clear hp; go_simp; rfl
        apply Free.sv; intro a w1 hI hp
        · have e22 := hp.b 4 5; have e27 := hp.b 9 0; refine ⟨Free.wn, ?_⟩; clear hp; go_simp; rfl
        apply Free.sv; intro a w1 hI hp
        · have e28 := hp.b 10 0; refine ⟨Free.wn, ?_⟩; clear hp; go_simp; rfl
        refine Free.sp 11 0 ?_; refine Free.sp 11 1 ?_; refine Free.sp 11 2 ?_; refine Free.sp 11 3 ?_; refine Free.sp 11 4 ?_; refine Free.sp 11 5 ?_; refine Free.sp 11 6 ?_; refine Free.sp 11 7 ?_; refine Free.sp 11 8 ?_; refine Free.sp 11 9 ?_; refine Free.sp 11 10 ?_
        apply Free.sv; intro a w1 hI hp
        · have e29 := hp.b 11 11; have e40 := hp.b 22 0; refine ⟨Free.wn, ?_⟩; clear hp; go_simp; rfl
        apply Free.sv; intro a w1 hI hp
        · have e41 := hp.b 23 0; refine ⟨Free.wn, ?_⟩; clear hp; go_simp; rfl
        refine Free.sp 24 0 ?_; refine Free.sp 24 1 ?_; refine Free.sp 24 2 ?_; refine Free.sp 24 3 ?_; refine Free.sp 24 4 ?_; refine Free.sp 24 5 ?_; refine Free.sp 24 6 ?_; refine Free.sp 24 7 ?_; refine Free.sp 24 8 ?_; refine Free.sp 24 9 ?_; refine Free.sp 24 10 ?_
        apply Free.sv; intro a w1 hI hp
        · have e42 := hp.b 24 11; have e53 := hp.b 35 0; refine ⟨Free.wn, ?_⟩; clear hp; go_simp; rfl
        apply Free.sv; intro a w1 hI hp
        · have e54 := hp.b 36 0; refine ⟨Free.wn, ?_⟩; clear hp; go_simp; rfl
        refine Free.sp 37 0 ?_; refine Free.sp 37 1 ?_; refine Free.sp 37 2 ?_; refine Free.sp 37 3 ?_; refine Free.sp 37 4 ?_; refine Free.sp 37 5 ?_; refine Free.sp 37 6 ?_; refine Free.sp 37 7 ?_; refine Free.sp 37 8 ?_; refine Free.sp 37 9 ?_; refine Free.sp 37 10 ?_; refine Free.sp 37 11 ?_; refine Free.sp 37 12 ?_
        apply Free.sv; intro a w1 hI hp
        · have e55 := hp.b 37 13; have e68 := hp.b 50 0; refine ⟨Free.wn, ?_⟩; clear hp; go_simp; rfl
        refine Free.Seq.done (by simp) (fun wz hIz => ?_); simp only [List.reverse_cons, List.reverse_nil, List.nil_append, List.cons_append, Free.All, Free.eqF, forall_eq]
        skip
        simp only [Free.putL, Act.put, List.setIfInBounds_toArray, List.set_cons_zero, List.set_cons_succ]; have HBZ := Lib.hid (HB0.out.trans (hIz.mono HB0.out.size)); clear hIz
        dsimp only [Exit.inBlock, Exit.then]
        go_wp2_with fail
        go_ret
        exact ⟨ret_bool (by rw [HN.out]), HBZ.out⟩
      have t0 : (xo != yo) = false := by simpa using ho
      by_cases he : xe = ye
      rotate_left
      · have HN := hne (.inr (.inl he)); have t1 : (xe != ye) = true := by simpa using he
        clear hne ho
        go_wp2_with fail
        refine Free.wp_seq (I := fun w' => Below wr.heap.size wr w') (Gr := fun w1 w2 => Below w1.heap.size w1 w2) (by kernel_rfl) (by kernel_rfl) (Below.refl _ _).drew ?_
        apply Free.sv; intro a w1 hI hp
        · have e0 := hp.sl 0; simp at e0; refine ⟨Free.wn, ?_⟩; clear hp; go_simp; rfl
        apply Free.sv; intro a w1 hI hp
        · have e5 := hp.sl 5; simp at e5; refine ⟨Free.wn, ?_⟩; clear hp; go_simp; rfl
        apply Free.sv; intro a w1 hI hp
        · have e18 := hp.b 0 1; have e19 := hp.b 1 0; refine ⟨Free.wn, ?_⟩; clear hp; go_simp; rfl
        apply Free.sv; intro a w1 hI hp
        · have e20 := hp.b 2 0; refine ⟨Free.wn, ?_⟩; clear hp; go_simp; rfl
        apply Free.sv; intro a w1 hI hp
        · have e21 := hp.b 3 0; have kc0 := (hI.cell (p := ⟨b, off + k * 4, none⟩) hbl).trans c0; refine ⟨Free.wn, ?_⟩; clear hp; go_simp; rfl
        apply Free.sv; intro a w1 hI hp
        · have e1 := hp.sl 1; simp at e1; refine ⟨Free.wn, ?_⟩; clear hp; go_simp; rfl
        apply Free.sv; intro a w1 hI hp
        · have e5 := hp.sl 5; simp at e5; refine ⟨Free.wn, ?_⟩; clear hp; go_simp; rfl
        apply Free.sv; intro a w1 hI hp
        · have e23 := hp.b 5 1; have e24 := hp.b 6 0; refine ⟨Free.wn, ?_⟩; clear hp; go_simp; rfl
        apply Free.sv; intro a w1 hI hp
        · have e25 := hp.b 7 0; refine ⟨Free.wn, ?_⟩; clear hp; go_simp; rfl
        apply Free.sv; intro a w1 hI hp
        · have e26 := hp.b 8 0; have kd0 := (hI.cell (p := ⟨b', off' + k * 4, none⟩) hbl').trans d0; refine ⟨Free.wn, ?_⟩; clear hp; go_simp; rfl
        apply Free.sv; intro a w1 hI hp
        · have e22 := hp.b 4 5; have e27 := hp.b 9 0; refine ⟨Free.wn, ?_⟩; clear hp; go_simp; rfl
        apply Free.sv; intro a w1 hI hp
        · have e28 := hp.b 10 0; refine ⟨Free.wn, ?_⟩; clear hp; go_simp; rfl
        apply Free.sv; intro a w1 hI hp
        · have e29 := hp.b 11 0; have e0 := hp.sl 0; simp at e0; refine ⟨hp.wt e29, ?_⟩; clear hp; go_simp; rfl
        apply Free.sv; intro a w1 hI hp
        · have e29 := hp.b 11 1; have e5 := hp.sl 5; simp at e5; refine ⟨hp.wt e29, ?_⟩; clear hp; go_simp; rfl
        apply Free.sv; intro a w1 hI hp
        · have e29 := hp.b 11 2; have e30 := hp.b 12 1; have e31 := hp.b 13 0; refine ⟨hp.wt e29, ?_⟩; clear hp; go_simp; rfl
        apply Free.sv; intro a w1 hI hp
        · have e29 := hp.b 11 3; have e32 := hp.b 14 0; refine ⟨hp.wt e29, ?_⟩; clear hp; go_simp; rfl
        apply Free.sv; intro a w1 hI hp
        · have e29 := hp.b 11 4; have e33 := hp.b 15 0; have kc1 := (hI.cell (p := ⟨b, off + k * 4 + 1, none⟩) hbl).trans c1; refine ⟨hp.wt e29, ?_⟩; clear hp; go_simp; rfl
        apply Free.sv; intro a w1 hI hp
        · have e29 := hp.b 11 5; have e1 := hp.sl 1; simp at e1; refine ⟨hp.wt e29, ?_⟩; clear hp; go_simp; rfl
        apply Free.sv; intro a w1 hI hp
        · have e29 := hp.b 11 6; have e5 := hp.sl 5; simp at e5; refine ⟨hp.wt e29, ?_⟩; clear hp; go_simp; rfl
        apply Free.sv; intro a w1 hI hp
        · have e29 := hp.b 11 7; have e35 := hp.b 17 1; have e36 := hp.b 18 0; refine ⟨hp.wt e29, ?_⟩; clear hp; go_simp; rfl
        apply Free.sv; intro a w1 hI hp
        · have e29 := hp.b 11 8; have e37 := hp.b 19 0; refine ⟨hp.wt e29, ?_⟩; clear hp; go_simp; rfl
        apply Free.sv; intro a w1 hI hp
        · have e29 := hp.b 11 9; have e38 := hp.b 20 0; have kd1 := (hI.cell (p := ⟨b', off' + k * 4 + 1, none⟩) hbl').trans d1; refine ⟨hp.wt e29, ?_⟩; clear hp; go_simp; rfl
        apply Free.sv; intro a w1 hI hp
        · have e29 := hp.b 11 10; have e34 := hp.b 16 5; have e39 := hp.b 21 0; refine ⟨hp.wt e29, ?_⟩; clear hp; go_simp; rfl
        apply Free.sv; intro a w1 hI hp
        · have e29 := hp.b 11 11; have e40 := hp.b 22 0; refine ⟨Free.wn, ?_⟩; clear hp; go_simp; rfl
        apply Free.sv; intro a w1 hI hp
        · have e41 := hp.b 23 0; refine ⟨Free.wn, ?_⟩; clear hp; go_simp; rfl
        refine Free.sp 24 0 ?_; refine Free.sp 24 1 ?_; refine Free.sp 24 2 ?_; refine Free.sp 24 3 ?_; refine Free.sp 24 4 ?_; refine Free.sp 24 5 ?_; refine Free.sp 24 6 ?_; refine Free.sp 24 7 ?_; refine Free.sp 24 8 ?_; refine Free.sp 24 9 ?_; refine Free.sp 24 10 ?_
        apply Free.sv; intro a w1 hI hp
        · have e42 := hp.b 24 11; have e53 := hp.b 35 0; refine ⟨Free.wn, ?_⟩; clear hp; go_simp; rfl
        apply Free.sv; intro a w1 hI hp
        · have e54 := hp.b 36 0; refine ⟨Free.wn, ?_⟩; clear hp; go_simp; rfl
        refine Free.sp 37 0 ?_; refine Free.sp 37 1 ?_; refine Free.sp 37 2 ?_; refine Free.sp 37 3 ?_; refine Free.sp 37 4 ?_; refine Free.sp 37 5 ?_; refine Free.sp 37 6 ?_; refine Free.sp 37 7 ?_; refine Free.sp 37 8 ?_; refine Free.sp 37 9 ?_; refine Free.sp 37 10 ?_; refine Free.sp 37 11 ?_; refine Free.sp 37 12 ?_
        apply Free.sv; intro a w1 hI hp
        · have e55 := hp.b 37 13; have e68 := hp.b 50 0; refine ⟨Free.wn, ?_⟩; clear hp; go_simp; rfl
        refine Free.Seq.done (by simp) (fun wz hIz => ?_); simp only [List.reverse_cons, List.reverse_nil, List.nil_append, List.cons_append, Free.All, Free.eqF, forall_eq]
        skip
        simp only [Free.putL, Act.put, List.setIfInBounds_toArray, List.set_cons_zero, List.set_cons_succ]; have HBZ := Lib.hid (HB0.out.trans (hIz.mono HB0.out.size)); clear hIz
        dsimp only [Exit.inBlock, Exit.then]
        go_wp2_with fail
        go_ret
        exact ⟨ret_bool (by rw [HN.out]), HBZ.out⟩
      have t1 : (xe != ye) = false := by simpa using he
      by_cases hu : xu = yu
      rotate_left
      · have HN := hne (.inr (.inr (.inl hu))); have t2 : (xu != yu) = true := by simpa using hu
        clear hne ho he
        go_wp2_with fail
        refine Free.wp_seq (I := fun w' => Below wr.heap.size wr w') (Gr := fun w1 w2 => Below w1.heap.size w1 w2) (by kernel_rfl) (by kernel_rfl) (Below.refl _ _).drew ?_
        apply Free.sv; intro a w1 hI hp
        · have e0 := hp.sl 0; simp at e0; refine ⟨Free.wn, ?_⟩; clear hp; go_simp; rfl
        apply Free.sv; intro a w1 hI hp
        · have e5 := hp.sl 5; simp at e5; refine ⟨Free.wn, ?_⟩; clear hp; go_simp; rfl
        apply Free.sv; intro a w1 hI hp
        · have e18 := hp.b 0 1; have e19 := hp.b 1 0; refine ⟨Free.wn, ?_⟩; clear hp; go_simp; rfl
        apply Free.sv; intro a w1 hI hp
        · have e20 := hp.b 2 0; refine ⟨Free.wn, ?_⟩; clear hp; go_simp; rfl
        apply Free.sv; intro a w1 hI hp
        · have e21 := hp.b 3 0; have kc0 := (hI.cell (p := ⟨b, off + k * 4, none⟩) hbl).trans c0; refine ⟨Free.wn, ?_⟩; clear hp; go_simp; rfl
        apply Free.sv; intro a w1 hI hp
        · have e1 := hp.sl 1; simp at e1; refine ⟨Free.wn, ?_⟩; clear hp; go_simp; rfl
        apply Free.sv; intro a w1 hI hp
        · have e5 := hp.sl 5; simp at e5; refine ⟨Free.wn, ?_⟩; clear hp; go_simp; rfl
        apply Free.sv; intro a w1 hI hp
        · have e23 := hp.b 5 1; have e24 := hp.b 6 0; refine ⟨Free.wn, ?_⟩; clear hp; go_simp; rfl
        apply Free.sv; intro a w1 hI hp
        · have e25 := hp.b 7 0; refine ⟨Free.wn, ?_⟩; clear hp; go_simp; rfl
        apply Free.sv; intro a w1 hI hp
        · have e26 := hp.b 8 0; have kd0 := (hI.cell (p := ⟨b', off' + k * 4, none⟩) hbl').trans d0; refine ⟨Free.wn, ?_⟩; clear hp; go_simp; rfl
        apply Free.sv; intro a w1 hI hp
        · have e22 := hp.b 4 5; have e27 := hp.b 9 0; refine ⟨Free.wn, ?_⟩; clear hp; go_simp; rfl
        apply Free.sv; intro a w1 hI hp
        · have e28 := hp.b 10 0; refine ⟨Free.wn, ?_⟩; clear hp; go_simp; rfl
        apply Free.sv; intro a w1 hI hp
        · have e29 := hp.b 11 0; have e0 := hp.sl 0; simp at e0; refine ⟨hp.wt e29, ?_⟩; clear hp; go_simp; rfl
        apply Free.sv; intro a w1 hI hp
        · have e29 := hp.b 11 1; have e5 := hp.sl 5; simp at e5; refine ⟨hp.wt e29, ?_⟩; clear hp; go_simp; rfl
        apply Free.sv; intro a w1 hI hp
        · have e29 := hp.b 11 2; have e30 := hp.b 12 1; have e31 := hp.b 13 0; refine ⟨hp.wt e29, ?_⟩; clear hp; go_simp; rfl
        apply Free.sv; intro a w1 hI hp
        · have e29 := hp.b 11 3; have e32 := hp.b 14 0; refine ⟨hp.wt e29, ?_⟩; clear hp; go_simp; rfl
        apply Free.sv; intro a w1 hI hp
        · have e29 := hp.b 11 4; have e33 := hp.b 15 0; have kc1 := (hI.cell (p := ⟨b, off + k * 4 + 1, none⟩) hbl).trans c1; refine ⟨hp.wt e29, ?_⟩; clear hp; go_simp; rfl
        apply Free.sv; intro a w1 hI hp
        · have e29 := hp.b 11 5; have e1 := hp.sl 1; simp at e1; refine ⟨hp.wt e29, ?_⟩; clear hp; go_simp; rfl
        apply Free.sv; intro a w1 hI hp
        · have e29 := hp.b 11 6; have e5 := hp.sl 5; simp at e5; refine ⟨hp.wt e29, ?_⟩; clear hp; go_simp; rfl
        apply Free.sv; intro a w1 hI hp
        · have e29 := hp.b 11 7; have e35 := hp.b 17 1; have e36 := hp.b 18 0; refine ⟨hp.wt e29, ?_⟩; clear hp; go_simp; rfl
        apply Free.sv; intro a w1 hI hp
        · have e29 := hp.b 11 8; have e37 := hp.b 19 0; refine ⟨hp.wt e29, ?_⟩; clear hp; go_simp; rfl
        apply Free.sv; intro a w1 hI hp
        · have e29 := hp.b 11 9; have e38 := hp.b 20 0; have kd1 := (hI.cell (p := ⟨b', off' + k * 4 + 1, none⟩) hbl').trans d1; refine ⟨hp.wt e29, ?_⟩; clear hp; go_simp; rfl
        apply Free.sv; intro a w1 hI hp
        · have e29 := hp.b 11 10; have e34 := hp.b 16 5; have e39 := hp.b 21 0; refine ⟨hp.wt e29, ?_⟩; clear hp; go_simp; rfl
        apply Free.sv; intro a w1 hI hp
        · have e29 := hp.b 11 11; have e40 := hp.b 22 0; refine ⟨Free.wn, ?_⟩; clear hp; go_simp; rfl
        apply Free.sv; intro a w1 hI hp
        · have e41 := hp.b 23 0; refine ⟨Free.wn, ?_⟩; clear hp; go_simp; rfl
        apply Free.sv; intro a w1 hI hp
        · have e42 := hp.b 24 0; have e0 := hp.sl 0; simp at e0; refine ⟨hp.wt e42, ?_⟩; clear hp; go_simp; rfl
        apply Free.sv; intro a w1 hI hp
        · have e42 := hp.b 24 1; have e5 := hp.sl 5; simp at e5; refine ⟨hp.wt e42, ?_⟩; clear hp; go_simp; rfl
        apply Free.sv; intro a w1 hI hp
        · have e42 := hp.b 24 2; have e43 := hp.b 25 1; have e44 := hp.b 26 0; refine ⟨hp.wt e42, ?_⟩; clear hp; go_simp; rfl
        apply Free.sv; intro a w1 hI hp
        · have e42 := hp.b 24 3; have e45 := hp.b 27 0; refine ⟨hp.wt e42, ?_⟩; clear hp; go_simp; rfl
        apply Free.sv; intro a w1 hI hp
        · have e42 := hp.b 24 4; have e46 := hp.b 28 0; have kc2 := (hI.cell (p := ⟨b, off + k * 4 + 2, none⟩) hbl).trans c2; refine ⟨hp.wt e42, ?_⟩; clear hp; go_simp; rfl
        apply Free.sv; intro a w1 hI hp
        · have e42 := hp.b 24 5; have e1 := hp.sl 1; simp at e1; refine ⟨hp.wt e42, ?_⟩; clear hp; go_simp; rfl
        apply Free.sv; intro a w1 hI hp
        · have e42 := hp.b 24 6; have e5 := hp.sl 5; simp at e5; refine ⟨hp.wt e42, ?_⟩; clear hp; go_simp; rfl
        apply Free.sv; intro a w1 hI hp
        · have e42 := hp.b 24 7; have e48 := hp.b 30 1; have e49 := hp.b 31 0; refine ⟨hp.wt e42, ?_⟩; clear hp; go_simp; rfl
        apply Free.sv; intro a w1 hI hp
        · have e42 := hp.b 24 8; have e50 := hp.b 32 0; refine ⟨hp.wt e42, ?_⟩; clear hp; go_simp; rfl
        apply Free.sv; intro a w1 hI hp
        · have e42 := hp.b 24 9; have e51 := hp.b 33 0; have kd2 := (hI.cell (p := ⟨b', off' + k * 4 + 2, none⟩) hbl').trans d2; refine ⟨hp.wt e42, ?_⟩; clear hp; go_simp; rfl
        apply Free.sv; intro a w1 hI hp
        · have e42 := hp.b 24 10; have e47 := hp.b 29 5; have e52 := hp.b 34 0; refine ⟨hp.wt e42, ?_⟩; clear hp; go_simp; rfl
        apply Free.sv; intro a w1 hI hp
        · have e42 := hp.b 24 11; have e53 := hp.b 35 0; refine ⟨Free.wn, ?_⟩; clear hp; go_simp; rfl
        apply Free.sv; intro a w1 hI hp
        · have e54 := hp.b 36 0; refine ⟨Free.wn, ?_⟩; clear hp; go_simp; rfl
        refine Free.sp 37 0 ?_; refine Free.sp 37 1 ?_; refine Free.sp 37 2 ?_; refine Free.sp 37 3 ?_; refine Free.sp 37 4 ?_; refine Free.sp 37 5 ?_; refine Free.sp 37 6 ?_; refine Free.sp 37 7 ?_; refine Free.sp 37 8 ?_; refine Free.sp 37 9 ?_; refine Free.sp 37 10 ?_; refine Free.sp 37 11 ?_; refine Free.sp 37 12 ?_
        apply Free.sv; intro a w1 hI hp
        · have e55 := hp.b 37 13; have e68 := hp.b 50 0; refine ⟨Free.wn, ?_⟩; clear hp; go_simp; rfl
        refine Free.Seq.done (by simp) (fun wz hIz => ?_); simp only [List.reverse_cons, List.reverse_nil, List.nil_append, List.cons_append, Free.All, Free.eqF, forall_eq]
        skip
        simp only [Free.putL, Act.put, List.setIfInBounds_toArray, List.set_cons_zero, List.set_cons_succ]; have HBZ := Lib.hid (HB0.out.trans (hIz.mono HB0.out.size)); clear hIz
        dsimp only [Exit.inBlock, Exit.then]
        go_wp2_with fail
        go_ret
        exact ⟨ret_bool (by rw [HN.out]), HBZ.out⟩
      have t2 : (xu != yu) = false := by simpa using hu
      by_cases hl : nx = ny
      rotate_left
      · have HN := hne (.inr (.inr (.inr hl))); have t3 : ((nx : Int) != (ny : Int)) = true := by simp; omega
        clear hne ho he hu
        go_wp2_with fail
        refine Free.wp_seq (I := fun w' => Below wr.heap.size wr w') (Gr := fun w1 w2 => Below w1.heap.size w1 w2) (by kernel_rfl) (by kernel_rfl) (Below.refl _ _).drew ?_
        apply Free.sv; intro a w1 hI hp
        · have e0 := hp.sl 0; simp at e0; refine ⟨Free.wn, ?_⟩; clear hp; go_simp; rfl
        apply Free.sv; intro a w1 hI hp
        · have e5 := hp.sl 5; simp at e5; refine ⟨Free.wn, ?_⟩; clear hp; go_simp; rfl
        apply Free.sv; intro a w1 hI hp
        · have e18 := hp.b 0 1; have e19 := hp.b 1 0; refine ⟨Free.wn, ?_⟩; clear hp; go_simp; rfl
        apply Free.sv; intro a w1 hI hp
        · have e20 := hp.b 2 0; refine ⟨Free.wn, ?_⟩; clear hp; go_simp; rfl
        apply Free.sv; intro a w1 hI hp
        · have e21 := hp.b 3 0; have kc0 := (hI.cell (p := ⟨b, off + k * 4, none⟩) hbl).trans c0; refine ⟨Free.wn, ?_⟩; clear hp; go_simp; rfl
        apply Free.sv; intro a w1 hI hp
        · have e1 := hp.sl 1; simp at e1; refine ⟨Free.wn, ?_⟩; clear hp; go_simp; rfl
        apply Free.sv; intro a w1 hI hp
        · have e5 := hp.sl 5; simp at e5; refine ⟨Free.wn, ?_⟩; clear hp; go_simp; rfl
        apply Free.sv; intro a w1 hI hp
        · have e23 := hp.b 5 1; have e24 := hp.b 6 0; refine ⟨Free.wn, ?_⟩; clear hp; go_simp; rfl
        apply Free.sv; intro a w1 hI hp
        · have e25 := hp.b 7 0; refine ⟨Free.wn, ?_⟩; clear hp; go_simp; rfl
        apply Free.sv; intro a w1 hI hp
        · have e26 := hp.b 8 0; have kd0 := (hI.cell (p := ⟨b', off' + k * 4, none⟩) hbl').trans d0; refine ⟨Free.wn, ?_⟩; clear hp; go_simp; rfl
        apply Free.sv; intro a w1 hI hp
        · have e22 := hp.b 4 5; have e27 := hp.b 9 0; refine ⟨Free.wn, ?_⟩; clear hp; go_simp; rfl
        apply Free.sv; intro a w1 hI hp
        · have e28 := hp.b 10 0; refine ⟨Free.wn, ?_⟩; clear hp; go_simp; rfl
        apply Free.sv; intro a w1 hI hp
        · have e29 := hp.b 11 0; have e0 := hp.sl 0; simp at e0; refine ⟨hp.wt e29, ?_⟩; clear hp; go_simp; rfl
        apply Free.sv; intro a w1 hI hp
        · have e29 := hp.b 11 1; have e5 := hp.sl 5; simp at e5; refine ⟨hp.wt e29, ?_⟩; clear hp; go_simp; rfl
        apply Free.sv; intro a w1 hI hp
        · have e29 := hp.b 11 2; have e30 := hp.b 12 1; have e31 := hp.b 13 0; refine ⟨hp.wt e29, ?_⟩; clear hp; go_simp; rfl
        apply Free.sv; intro a w1 hI hp
        · have e29 := hp.b 11 3; have e32 := hp.b 14 0; refine ⟨hp.wt e29, ?_⟩; clear hp; go_simp; rfl
        apply Free.sv; intro a w1 hI hp
        · have e29 := hp.b 11 4; have e33 := hp.b 15 0; have kc1 := (hI.cell (p := ⟨b, off + k * 4 + 1, none⟩) hbl).trans c1; refine ⟨hp.wt e29, ?_⟩; clear hp; go_simp; rfl
        apply Free.sv; intro a w1 hI hp
        · have e29 := hp.b 11 5; have e1 := hp.sl 1; simp at e1; refine ⟨hp.wt e29, ?_⟩; clear hp; go_simp; rfl
        apply Free.sv; intro a w1 hI hp
        · have e29 := hp.b 11 6; have e5 := hp.sl 5; simp at e5; refine ⟨hp.wt e29, ?_⟩; clear hp; go_simp; rfl
        apply Free.sv; intro a w1 hI hp
        · have e29 := hp.b 11 7; have e35 := hp.b 17 1; have e36 := hp.b 18 0; refine ⟨hp.wt e29, ?_⟩; clear hp; go_simp; rfl
        apply Free.sv; intro a w1 hI hp
        · have e29 := hp.b 11 8; have e37 := hp.b 19 0; refine ⟨hp.wt e29, ?_⟩; clear hp; go_simp; rfl
        apply Free.sv; intro a w1 hI hp
        · have e29 := hp.b 11 9; have e38 := hp.b 20 0; have kd1 := (hI.cell (p := ⟨b', off' + k * 4 + 1, none⟩) hbl').trans d1; refine ⟨hp.wt e29, ?_⟩; clear hp; go_simp; rfl
        apply Free.sv; intro a w1 hI hp
        · have e29 := hp.b 11 10; have e34 := hp.b 16 5; have e39 := hp.b 21 0; refine ⟨hp.wt e29, ?_⟩; clear hp; go_simp; rfl
        apply Free.sv; intro a w1 hI hp
        · have e29 := hp.b 11 11; have e40 := hp.b 22 0; refine ⟨Free.wn, ?_⟩; clear hp; go_simp; rfl
        apply Free.sv; intro a w1 hI hp
        · have e41 := hp.b 23 0; refine ⟨Free.wn, ?_⟩; clear hp; go_simp; rfl
        apply Free.sv; intro a w1 hI hp
        · have e42 := hp.b 24 0; have e0 := hp.sl 0; simp at e0; refine ⟨hp.wt e42, ?_⟩; clear hp; go_simp; rfl
        apply Free.sv; intro a w1 hI hp
        · have e42 := hp.b 24 1; have e5 := hp.sl 5; simp at e5; refine ⟨hp.wt e42, ?_⟩; clear hp; go_simp; rfl
        apply Free.sv; intro a w1 hI hp
        · have e42 := hp.b 24 2; have e43 := hp.b 25 1; have e44 := hp.b 26 0; refine ⟨hp.wt e42, ?_⟩; clear hp; go_simp; rfl
        apply Free.sv; intro a w1 hI hp
        · have e42 := hp.b 24 3; have e45 := hp.b 27 0; refine ⟨hp.wt e42, ?_⟩; clear hp; go_simp; rfl
        apply Free.sv; intro a w1 hI hp
        · have e42 := hp.b 24 4; have e46 := hp.b 28 0; have kc2 := (hI.cell (p := ⟨b, off + k * 4 + 2, none⟩) hbl).trans c2; refine ⟨hp.wt e42, ?_⟩; clear hp; go_simp; rfl
        apply Free.sv; intro a w1 hI hp
        · have e42 := hp.b 24 5; have e1 := hp.sl 1; simp at e1; refine ⟨hp.wt e42, ?_⟩; clear hp; go_simp; rfl
        apply Free.sv; intro a w1 hI hp
        · have e42 := hp.b 24 6; have e5 := hp.sl 5; simp at e5; refine ⟨hp.wt e42, ?_⟩; clear hp; go_simp; rfl
        apply Free.sv; intro a w1 hI hp
        · have e42 := hp.b 24 7; have e48 := hp.b 30 1; have e49 := hp.b 31 0; refine ⟨hp.wt e42, ?_⟩; clear hp; go_simp; rfl
        apply Free.sv; intro a w1 hI hp
        · have e42 := hp.b 24 8; have e50 := hp.b 32 0; refine ⟨hp.wt e42, ?_⟩; clear hp; go_simp; rfl
        apply Free.sv; intro a w1 hI hp
        · have e42 := hp.b 24 9; have e51 := hp.b 33 0; have kd2 := (hI.cell (p := ⟨b', off' + k * 4 + 2, none⟩) hbl').trans d2; refine ⟨hp.wt e42, ?_⟩; clear hp; go_simp; rfl
        apply Free.sv; intro a w1 hI hp
        · have e42 := hp.b 24 10; have e47 := hp.b 29 5; have e52 := hp.b 34 0; refine ⟨hp.wt e42, ?_⟩; clear hp; go_simp; rfl
        apply Free.sv; intro a w1 hI hp
        · have e42 := hp.b 24 11; have e53 := hp.b 35 0; refine ⟨Free.wn, ?_⟩; clear hp; go_simp; rfl
        apply Free.sv; intro a w1 hI hp
        · have e54 := hp.b 36 0; refine ⟨Free.wn, ?_⟩; clear hp; go_simp; rfl
        apply Free.sv; intro a w1 hI hp
        · have e55 := hp.b 37 0; have e0 := hp.sl 0; simp at e0; refine ⟨hp.wt e55, ?_⟩; clear hp; go_simp; rfl
        apply Free.sv; intro a w1 hI hp
        · have e55 := hp.b 37 1; have e5 := hp.sl 5; simp at e5; refine ⟨hp.wt e55, ?_⟩; clear hp; go_simp; rfl
        apply Free.sv; intro a w1 hI hp
        · have e55 := hp.b 37 2; have e56 := hp.b 38 1; have e57 := hp.b 39 0; refine ⟨hp.wt e55, ?_⟩; clear hp; go_simp; rfl
        apply Free.sv; intro a w1 hI hp
        · have e55 := hp.b 37 3; have e58 := hp.b 40 0; refine ⟨hp.wt e55, ?_⟩; clear hp; go_simp; rfl
        apply Free.sv; intro a w1 hI hp
        · have e55 := hp.b 37 4; have e59 := hp.b 41 0; have kc3 := (hI.cell (p := ⟨b, off + k * 4 + 3, none⟩) hbl).trans c3; refine ⟨hp.wt e55, ?_⟩; clear hp; go_simp; rfl
        apply Free.sv; intro a w1 hI hp
        · have e55 := hp.b 37 5; have e60 := hp.b 42 0; refine ⟨hp.wt e55, ?_⟩; clear hp; go_simp; rfl
        apply Free.sv; intro a w1 hI hp
        · have e55 := hp.b 37 6; have e1 := hp.sl 1; simp at e1; refine ⟨hp.wt e55, ?_⟩; clear hp; go_simp; rfl
        apply Free.sv; intro a w1 hI hp
        · have e55 := hp.b 37 7; have e5 := hp.sl 5; simp at e5; refine ⟨hp.wt e55, ?_⟩; clear hp; go_simp; rfl
        apply Free.sv; intro a w1 hI hp
        · have e55 := hp.b 37 8; have e62 := hp.b 44 1; have e63 := hp.b 45 0; refine ⟨hp.wt e55, ?_⟩; clear hp; go_simp; rfl
        apply Free.sv; intro a w1 hI hp
        · have e55 := hp.b 37 9; have e64 := hp.b 46 0; refine ⟨hp.wt e55, ?_⟩; clear hp; go_simp; rfl
        apply Free.sv; intro a w1 hI hp
        · have e55 := hp.b 37 10; have e65 := hp.b 47 0; have kd3 := (hI.cell (p := ⟨b', off' + k * 4 + 3, none⟩) hbl').trans d3; refine ⟨hp.wt e55, ?_⟩; clear hp; go_simp; rfl
        apply Free.sv; intro a w1 hI hp
        · have e55 := hp.b 37 11; have e66 := hp.b 48 0; refine ⟨hp.wt e55, ?_⟩; clear hp; go_simp; rfl
        apply Free.sv; intro a w1 hI hp
        · have e55 := hp.b 37 12; have e61 := hp.b 43 6; have e67 := hp.b 49 0; refine ⟨hp.wt e55, ?_⟩; clear hp; go_simp; rfl
        apply Free.sv; intro a w1 hI hp
        · have e55 := hp.b 37 13; have e68 := hp.b 50 0; refine ⟨Free.wn, ?_⟩; clear hp; go_simp; rfl
        refine Free.Seq.done (by simp) (fun wz hIz => ?_); simp only [List.reverse_cons, List.reverse_nil, List.nil_append, List.cons_append, Free.All, Free.eqF, forall_eq]
        skip
        simp only [Free.putL, Act.put, List.setIfInBounds_toArray, List.set_cons_zero, List.set_cons_succ]; have HBZ := Lib.hid (HB0.out.trans (hIz.mono HB0.out.size)); clear hIz
        dsimp only [Exit.inBlock, Exit.then]
        go_wp2_with fail
        go_ret
        exact ⟨ret_bool (by rw [HN.out]), HBZ.out⟩
      have t3 : ((nx : Int) != (ny : Int)) = false := by simp; omega
      have HQ1 : Hid (R = (decide (xm.drop 0 = ym.drop 0) && decide (la.drop (k + 1) = lb.drop (k + 1)))) := by
        show R = _
        rw [HQ.out, ho, he, hu, List.drop_zero, List.drop_zero]
        congr 1
        rw [Bool.eq_iff_iff]; simp
      clear hne ho he hu HQ
      go_wp2_with fail
      refine Free.wp_seq (I := fun w' => Below wr.heap.size wr w') (Gr := fun w1 w2 => Below w1.heap.size w1 w2) (by kernel_rfl) (by kernel_rfl) (Below.refl _ _).drew ?_
      apply Free.sv; intro a w1 hI hp
      · have e0 := hp.sl 0; simp at e0; refine ⟨Free.wn, ?_⟩; clear hp; go_simp; rfl
      apply Free.sv; intro a w1 hI hp
      · have e5 := hp.sl 5; simp at e5; refine ⟨Free.wn, ?_⟩; clear hp; go_simp; rfl
      apply Free.sv; intro a w1 hI hp
      · have e18 := hp.b 0 1; have e19 := hp.b 1 0; refine ⟨Free.wn, ?_⟩; clear hp; go_simp; rfl
      apply Free.sv; intro a w1 hI hp
      · have e20 := hp.b 2 0; refine ⟨Free.wn, ?_⟩; clear hp; go_simp; rfl
      apply Free.sv; intro a w1 hI hp
      · have e21 := hp.b 3 0; have kc0 := (hI.cell (p := ⟨b, off + k * 4, none⟩) hbl).trans c0; refine ⟨Free.wn, ?_⟩; clear hp; go_simp; rfl
      apply Free.sv; intro a w1 hI hp
      · have e1 := hp.sl 1; simp at e1; refine ⟨Free.wn, ?_⟩; clear hp; go_simp; rfl
      apply Free.sv; intro a w1 hI hp
      · have e5 := hp.sl 5; simp at e5; refine ⟨Free.wn, ?_⟩; clear hp; go_simp; rfl
      apply Free.sv; intro a w1 hI hp
      · have e23 := hp.b 5 1; have e24 := hp.b 6 0; refine ⟨Free.wn, ?_⟩; clear hp; go_simp; rfl
      apply Free.sv; intro a w1 hI hp
      · have e25 := hp.b 7 0; refine ⟨Free.wn, ?_⟩; clear hp; go_simp; rfl
      apply Free.sv; intro a w1 hI hp
      · have e26 := hp.b 8 0; have kd0 := (hI.cell (p := ⟨b', off' + k * 4, none⟩) hbl').trans d0; refine ⟨Free.wn, ?_⟩; clear hp; go_simp; rfl
      apply Free.sv; intro a w1 hI hp
      · have e22 := hp.b 4 5; have e27 := hp.b 9 0; refine ⟨Free.wn, ?_⟩; clear hp; go_simp; rfl
      apply Free.sv; intro a w1 hI hp
      · have e28 := hp.b 10 0; refine ⟨Free.wn, ?_⟩; clear hp; go_simp; rfl
      apply Free.sv; intro a w1 hI hp
      · have e29 := hp.b 11 0; have e0 := hp.sl 0; simp at e0; refine ⟨hp.wt e29, ?_⟩; clear hp; go_simp; rfl
      apply Free.sv; intro a w1 hI hp
      · have e29 := hp.b 11 1; have e5 := hp.sl 5; simp at e5; refine ⟨hp.wt e29, ?_⟩; clear hp; go_simp; rfl
      apply Free.sv; intro a w1 hI hp
      · have e29 := hp.b 11 2; have e30 := hp.b 12 1; have e31 := hp.b 13 0; refine ⟨hp.wt e29, ?_⟩; clear hp; go_simp; rfl
      apply Free.sv; intro a w1 hI hp
      · have e29 := hp.b 11 3; have e32 := hp.b 14 0; refine ⟨hp.wt e29, ?_⟩; clear hp; go_simp; rfl
      apply Free.sv; intro a w1 hI hp
      · have e29 := hp.b 11 4; have e33 := hp.b 15 0; have kc1 := (hI.cell (p := ⟨b, off + k * 4 + 1, none⟩) hbl).trans c1; refine ⟨hp.wt e29, ?_⟩; clear hp; go_simp; rfl
      apply Free.sv; intro a w1 hI hp
      · have e29 := hp.b 11 5; have e1 := hp.sl 1; simp at e1; refine ⟨hp.wt e29, ?_⟩; clear hp; go_simp; rfl
      apply Free.sv; intro a w1 hI hp
      · have e29 := hp.b 11 6; have e5 := hp.sl 5; simp at e5; refine ⟨hp.wt e29, ?_⟩; clear hp; go_simp; rfl
      apply Free.sv; intro a w1 hI hp
      · have e29 := hp.b 11 7; have e35 := hp.b 17 1; have e36 := hp.b 18 0; refine ⟨hp.wt e29, ?_⟩; clear hp; go_simp; rfl
      apply Free.sv; intro a w1 hI hp
      · have e29 := hp.b 11 8; have e37 := hp.b 19 0; refine ⟨hp.wt e29, ?_⟩; clear hp; go_simp; rfl
      apply Free.sv; intro a w1 hI hp
      · have e29 := hp.b 11 9; have e38 := hp.b 20 0; have kd1 := (hI.cell (p := ⟨b', off' + k * 4 + 1, none⟩) hbl').trans d1; refine ⟨hp.wt e29, ?_⟩; clear hp; go_simp; rfl
      apply Free.sv; intro a w1 hI hp
      · have e29 := hp.b 11 10; have e34 := hp.b 16 5; have e39 := hp.b 21 0; refine ⟨hp.wt e29, ?_⟩; clear hp; go_simp; rfl
      apply Free.sv; intro a w1 hI hp
      · have e29 := hp.b 11 11; have e40 := hp.b 22 0; refine ⟨Free.wn, ?_⟩; clear hp; go_simp; rfl
      apply Free.sv; intro a w1 hI hp
      · have e41 := hp.b 23 0; refine ⟨Free.wn, ?_⟩; clear hp; go_simp; rfl
      apply Free.sv; intro a w1 hI hp
      · have e42 := hp.b 24 0; have e0 := hp.sl 0; simp at e0; refine ⟨hp.wt e42, ?_⟩; clear hp; go_simp; rfl
      apply Free.sv; intro a w1 hI hp
      · have e42 := hp.b 24 1; have e5 := hp.sl 5; simp at e5; refine ⟨hp.wt e42, ?_⟩; clear hp; go_simp; rfl
      apply Free.sv; intro a w1 hI hp
      · have e42 := hp.b 24 2; have e43 := hp.b 25 1; have e44 := hp.b 26 0; refine ⟨hp.wt e42, ?_⟩; clear hp; go_simp; rfl
      apply Free.sv; intro a w1 hI hp
      · have e42 := hp.b 24 3; have e45 := hp.b 27 0; refine ⟨hp.wt e42, ?_⟩; clear hp; go_simp; rfl
      apply Free.sv; intro a w1 hI hp
      · have e42 := hp.b 24 4; have e46 := hp.b 28 0; have kc2 := (hI.cell (p := ⟨b, off + k * 4 + 2, none⟩) hbl).trans c2; refine ⟨hp.wt e42, ?_⟩; clear hp; go_simp; rfl
      apply Free.sv; intro a w1 hI hp
      · have e42 := hp.b 24 5; have e1 := hp.sl 1; simp at e1; refine ⟨hp.wt e42, ?_⟩; clear hp; go_simp; rfl
      apply Free.sv; intro a w1 hI hp
      · have e42 := hp.b 24 6; have e5 := hp.sl 5; simp at e5; refine ⟨hp.wt e42, ?_⟩; clear hp; go_simp; rfl
      apply Free.sv; intro a w1 hI hp
      · have e42 := hp.b 24 7; have e48 := hp.b 30 1; have e49 := hp.b 31 0; refine ⟨hp.wt e42, ?_⟩; clear hp; go_simp; rfl
      apply Free.sv; intro a w1 hI hp
      · have e42 := hp.b 24 8; have e50 := hp.b 32 0; refine ⟨hp.wt e42, ?_⟩; clear hp; go_simp; rfl
      apply Free.sv; intro a w1 hI hp
      · have e42 := hp.b 24 9; have e51 := hp.b 33 0; have kd2 := (hI.cell (p := ⟨b', off' + k * 4 + 2, none⟩) hbl').trans d2; refine ⟨hp.wt e42, ?_⟩; clear hp; go_simp; rfl
      apply Free.sv; intro a w1 hI hp
      · have e42 := hp.b 24 10; have e47 := hp.b 29 5; have e52 := hp.b 34 0; refine ⟨hp.wt e42, ?_⟩; clear hp; go_simp; rfl
      apply Free.sv; intro a w1 hI hp
      · have e42 := hp.b 24 11; have e53 := hp.b 35 0; refine ⟨Free.wn, ?_⟩; clear hp; go_simp; rfl
      apply Free.sv; intro a w1 hI hp
      · have e54 := hp.b 36 0; refine ⟨Free.wn, ?_⟩; clear hp; go_simp; rfl
      apply Free.sv; intro a w1 hI hp
      · have e55 := hp.b 37 0; have e0 := hp.sl 0; simp at e0; refine ⟨hp.wt e55, ?_⟩; clear hp; go_simp; rfl
      apply Free.sv; intro a w1 hI hp
      · have e55 := hp.b 37 1; have e5 := hp.sl 5; simp at e5; refine ⟨hp.wt e55, ?_⟩; clear hp; go_simp; rfl
      apply Free.sv; intro a w1 hI hp
      · have e55 := hp.b 37 2; have e56 := hp.b 38 1; have e57 := hp.b 39 0; refine ⟨hp.wt e55, ?_⟩; clear hp; go_simp; rfl
      apply Free.sv; intro a w1 hI hp
      · have e55 := hp.b 37 3; have e58 := hp.b 40 0; refine ⟨hp.wt e55, ?_⟩; clear hp; go_simp; rfl
      apply Free.sv; intro a w1 hI hp
      · have e55 := hp.b 37 4; have e59 := hp.b 41 0; have kc3 := (hI.cell (p := ⟨b, off + k * 4 + 3, none⟩) hbl).trans c3; refine ⟨hp.wt e55, ?_⟩; clear hp; go_simp; rfl
      apply Free.sv; intro a w1 hI hp
      · have e55 := hp.b 37 5; have e60 := hp.b 42 0; refine ⟨hp.wt e55, ?_⟩; clear hp; go_simp; rfl
      apply Free.sv; intro a w1 hI hp
      · have e55 := hp.b 37 6; have e1 := hp.sl 1; simp at e1; refine ⟨hp.wt e55, ?_⟩; clear hp; go_simp; rfl
      apply Free.sv; intro a w1 hI hp
      · have e55 := hp.b 37 7; have e5 := hp.sl 5; simp at e5; refine ⟨hp.wt e55, ?_⟩; clear hp; go_simp; rfl
      apply Free.sv; intro a w1 hI hp
      · have e55 := hp.b 37 8; have e62 := hp.b 44 1; have e63 := hp.b 45 0; refine ⟨hp.wt e55, ?_⟩; clear hp; go_simp; rfl
      apply Free.sv; intro a w1 hI hp
      · have e55 := hp.b 37 9; have e64 := hp.b 46 0; refine ⟨hp.wt e55, ?_⟩; clear hp; go_simp; rfl
      apply Free.sv; intro a w1 hI hp
      · have e55 := hp.b 37 10; have e65 := hp.b 47 0; have kd3 := (hI.cell (p := ⟨b', off' + k * 4 + 3, none⟩) hbl').trans d3; refine ⟨hp.wt e55, ?_⟩; clear hp; go_simp; rfl
      apply Free.sv; intro a w1 hI hp
      · have e55 := hp.b 37 11; have e66 := hp.b 48 0; refine ⟨hp.wt e55, ?_⟩; clear hp; go_simp; rfl
      apply Free.sv; intro a w1 hI hp
      · have e55 := hp.b 37 12; have e61 := hp.b 43 6; have e67 := hp.b 49 0; refine ⟨hp.wt e55, ?_⟩; clear hp; go_simp; rfl
      apply Free.sv; intro a w1 hI hp
      · have e55 := hp.b 37 13; have e68 := hp.b 50 0; refine ⟨Free.wn, ?_⟩; clear hp; go_simp; rfl
      refine Free.Seq.done (by simp) (fun wz hIz => ?_); simp only [List.reverse_cons, List.reverse_nil, List.nil_append, List.cons_append, Free.All, Free.eqF, forall_eq]
      skip
      simp only [Free.putL, Act.put, List.setIfInBounds_toArray, List.set_cons_zero, List.set_cons_succ]; have HIZ := Lib.hid hIz; have HBZ := Lib.hid (HB0.out.trans (hIz.mono HB0.out.size)); clear hIz t0 t1 t2 t3
      dsimp only [Exit.inBlock, Exit.then]
      go_wp2_with fail
      go_loopw [6] (fun i wq => ∃ j : Nat, i = .int .i64 j ∧ j ≤ nx ∧ Hid (R = (decide (xm.drop j = ym.drop j) && decide (la.drop (k + 1) = lb.drop (k + 1))) ∧ Below w.heap.size w wq ∧ Below wr.heap.size wr wq)) (fun i _ => nx - (intOf i).toNat)
      case atStart => exact ⟨0, rfl, Nat.zero_le _, HQ1.out, HBZ.out, HIZ.out⟩
      case round =>
        obtain ⟨j, rfl, hj, hq, hb1, hb2⟩ := hrel; have HQ := Lib.hid hq; have HB1 := Lib.hid hb1; have HB2 := Lib.hid hb2; have c3 := (hb2.cell (p := ⟨b, off + k * 4 + 3, none⟩) hbl).trans c3; have d3 := (hb2.cell (p := ⟨b', off' + k * 4 + 3, none⟩) hbl').trans d3; have hbl := Nat.lt_of_lt_of_le hbl hb2.size; have hbl' := Nat.lt_of_lt_of_le hbl' hb2.size; clear hq hb1 hb2
        by_cases hlt2 : j < nx
        · obtain ⟨bx, ox, x, cs, rfl, hBx, hbxl, hx, hcs, hlen, hcell⟩ := (HRX.out.below keeps_int HB2.out).at' hlt2; unfold EInt at hcs; subst hcs; have c9 := hcell 0 _ rfl; rw [Nat.mul_one, Nat.add_zero] at c9; obtain ⟨by_, oy, y, cs, rfl, hBy, hbyl, hy, hcs, hlen', hcell'⟩ := (HRY.out.below keeps_int HB2.out).at' (by omega : j < ny); unfold EInt at hcs; subst hcs; have d9 := hcell' 0 _ rfl; rw [Nat.mul_one, Nat.add_zero] at d9; rw [drop_same hx hy] at HQ; have hjb : j < 281474976710656 := by omega
          have hj0 : (0 : Int) ≤ (j : Int) := by omega
          have hj1 : (j : Int) < (nx : Int) := by omega
          have hj2 : (j : Int) < (ny : Int) := by omega
          clear hcell hcell' hlen hlen' hx hy
          go_wp2_with fail
          refine Free.wp_seq (I := fun w' => Below wr.heap.size wr w') (Gr := fun w1 w2 => Below w1.heap.size w1 w2) (by kernel_rfl) (by kernel_rfl) (Below.refl _ _).drew ?_
          apply Free.sv; intro a w1 hI hp
          · have e0 := hp.sl 0; simp at e0; refine ⟨Free.wn, ?_⟩; clear hp; go_simp; rfl
          apply Free.sv; intro a w1 hI hp
          · have e5 := hp.sl 5; simp at e5; refine ⟨Free.wn, ?_⟩; clear hp; go_simp; rfl
          apply Free.sv; intro a w1 hI hp
          · have e80 := hp.b 0 1; have e81 := hp.b 1 0; refine ⟨Free.wn, ?_⟩; clear hp; go_simp; rfl
          apply Free.sv; intro a w1 hI hp
          · have e82 := hp.b 2 0; refine ⟨Free.wn, ?_⟩; clear hp; go_simp; rfl
          apply Free.sv; intro a w1 hI hp
          · have e83 := hp.b 3 0; have kc3 := (hI.cell (p := ⟨b, off + k * 4 + 3, none⟩) hbl).trans c3; refine ⟨Free.wn, ?_⟩; clear hp; go_simp; rfl
          apply Free.sv; intro a w1 hI hp
          · have e6 := hp.sl 6; simp at e6; refine ⟨Free.wn, ?_⟩; clear hp; go_simp; rfl
          apply Free.sv; intro a w1 hI hp
          · have e84 := hp.b 4 1; have e85 := hp.b 5 0; refine ⟨Free.wn, ?_⟩; clear hp; go_simp; rfl
          apply Free.sv; intro a w1 hI hp
          · have e86 := hp.b 6 0; have kc9 := (hI.cell (p := ⟨bx, ox + j, none⟩) hbxl).trans c9; refine ⟨Free.wn, ?_⟩; clear hp; go_simp; rfl
          apply Free.sv; intro a w1 hI hp
          · have e1 := hp.sl 1; simp at e1; refine ⟨Free.wn, ?_⟩; clear hp; go_simp; rfl
          apply Free.sv; intro a w1 hI hp
          · have e5 := hp.sl 5; simp at e5; refine ⟨Free.wn, ?_⟩; clear hp; go_simp; rfl
          apply Free.sv; intro a w1 hI hp
          · have e88 := hp.b 8 1; have e89 := hp.b 9 0; refine ⟨Free.wn, ?_⟩; clear hp; go_simp; rfl
          apply Free.sv; intro a w1 hI hp
          · have e90 := hp.b 10 0; refine ⟨Free.wn, ?_⟩; clear hp; go_simp; rfl
          apply Free.sv; intro a w1 hI hp
          · have e91 := hp.b 11 0; have kd3 := (hI.cell (p := ⟨b', off' + k * 4 + 3, none⟩) hbl').trans d3; refine ⟨Free.wn, ?_⟩; clear hp; go_simp; rfl
          apply Free.sv; intro a w1 hI hp
          · have e6 := hp.sl 6; simp at e6; refine ⟨Free.wn, ?_⟩; clear hp; go_simp; rfl
          apply Free.sv; intro a w1 hI hp
          · have e92 := hp.b 12 1; have e93 := hp.b 13 0; refine ⟨Free.wn, ?_⟩; clear hp; go_simp; rfl
          apply Free.sv; intro a w1 hI hp
          · have e94 := hp.b 14 0; have kd9 := (hI.cell (p := ⟨by_, oy + j, none⟩) hbyl).trans d9; refine ⟨Free.wn, ?_⟩; clear hp; go_simp; rfl
          apply Free.sv; intro a w1 hI hp
          · have e87 := hp.b 7 8; have e95 := hp.b 15 0; refine ⟨Free.wn, ?_⟩; clear hp; go_simp; rfl
          refine Free.Seq.done (by simp) (fun wz hIz => ?_); simp only [List.reverse_cons, List.reverse_nil, List.nil_append, List.cons_append, Free.All, Free.eqF, forall_eq]
          skip
          simp only [Free.putL, Act.put, List.setIfInBounds_toArray, List.set_cons_zero, List.set_cons_succ]; have HB3 := Lib.hid (HB1.out.trans (hIz.mono HB1.out.size)); have HB4 := Lib.hid (HB2.out.trans (hIz.mono HB2.out.size)); clear hIz c3 d3 c9 d9
          dsimp only [Exit.inBlock, Exit.then]
          by_cases hxy : x = y
          · have t9 : (x != y) = false := by simpa using hxy
            have hq2 : R = (decide (xm.drop (j + 1) = ym.drop (j + 1)) && decide (la.drop (k + 1) = lb.drop (k + 1))) := by
              rw [HQ.out, hxy]; simp
            have HQ2 := Lib.hid hq2; clear hxy hq2
            go_wp2_with fail
            exact ⟨⟨j + 1, by simp, by omega, HQ2.out, HB3.out, HB4.out⟩, by simp only [intOf]; omega⟩
          · have t9 : (x != y) = true := by simpa using hxy
            have hq2 : R = false := by
              rw [HQ.out, decide_eq_false hxy]; simp
            have HQ2 := Lib.hid hq2; clear hxy hq2
            go_wp2_with fail
            go_ret
            exact ⟨ret_bool (by rw [HQ2.out]), HB3.out⟩
        · have hjn : j = nx := by omega
          subst hjn; have hq2 : R = decide (la.drop (k + 1) = lb.drop (k + 1)) := by
            rw [HQ.out, drop_done HNX.out.symm (by rw [← HNY.out]; exact hl.symm), Bool.true_and]
          have HQ2 := Lib.hid hq2; clear hq2 HQ HQ1
          go_wp2_with fail
          exact ⟨⟨k + 1, by simp, by omega, HQ2.out, HB1.out⟩, by simp only [intOf]; omega⟩
    · have hk2 : k = n := by omega
      subst hk2
      go_wp2_with fail
      go_ret
      exact ⟨ret_bool (by rw [HQ.out]; exact (drop_done HLA.out HLB.out).symm), HB0.out⟩
set_option maxRecDepth 100000 in
set_option maxHeartbeats 8000000 in
theorem rsamestate_any (s1 s2 : St) (v1 v2 : Sv) (B1 B2 : Nat) (w : World) (h1 : RdS w B1 v1 s1) (h2 : RdS w B2 v2 s2) :
    Calls Try.prog 14 #[stv s1 v1, stv s2 v2] w fun e w' => e = .returned (.bool (decide (s1 = s2))) ∧ Below w.heap.size w w' := by
  obtain ⟨R, hR⟩ : ∃ R, R = decide (s1 = s2) := ⟨_, rfl⟩; rw [← hR]; have H1 := Lib.hid h1; have H2 := Lib.hid h2; have hl1 := h1.nx.len; have hl2 := h2.nx.len; have hbig := h1.nx.big; clear h1 h2; obtain ⟨self, ep, nx, hd, sn⟩ := s1; obtain ⟨self', ep', nx', hd', sn'⟩ := s2; obtain ⟨A1, n1, c1, A2, n2, c2, A3, n3, c3⟩ := v1; obtain ⟨A1', n1', c1', A2', n2', c2', A3', n3', c3'⟩ := v2; unfold stv; simp only at hl1 hl2 hbig; have hrr : R = (decide (self = self') && (decide (ep = ep') && (decide (nx = nx') && (decide (hd = hd') && decide (sn = sn'))))) := by
    rw [hR, Bool.eq_iff_iff]; simp
  have HR := Lib.hid hrr; have HL1 := Lib.hid hl1; have HL2 := Lib.hid hl2; clear hR hrr hl1 hl2
  go_enter Try.func14, Try.ntmps14
  by_cases ho : self = self'
  rotate_left
  · have t0 : (self != self') = true := by simpa using ho
    have hr : R = false := by rw [HR.out, decide_eq_false ho, Bool.false_and]
    have HR0 := Lib.hid hr; clear ho hr
    go_wp2_with fail
    go_ret
    exact ⟨ret_bool (by rw [HR0.out]), ((Below.refl _ _).alloc (Nat.le_refl _) _).alloc (by simp) _⟩
  have t0 : (self != self') = false := by simpa using ho
  by_cases he : ep = ep'
  rotate_left
  · have t1 : (ep != ep') = true := by simpa using he
    have hr : R = false := by rw [HR.out, decide_eq_false he, Bool.false_and, Bool.and_false]
    have HR0 := Lib.hid hr; clear ho he hr
    go_wp2_with fail
    go_ret
    exact ⟨ret_bool (by rw [HR0.out]), ((Below.refl _ _).alloc (Nat.le_refl _) _).alloc (by simp) _⟩
  have t1 : (ep != ep') = false := by simpa using he
  by_cases hn : n1 = n1'
  rotate_left
  · have t2 : ((n1 : Int) != (n1' : Int)) = true := by simp; omega
    have hr : R = false := by
      rw [HR.out, decide_eq_false (show ¬ nx = nx' from fun h => hn (by rw [← HL1.out, ← HL2.out, h]))]; simp
    have HR0 := Lib.hid hr; clear ho he hn hr
    go_wp2_with fail
    go_ret
    exact ⟨ret_bool (by rw [HR0.out]), ((Below.refl _ _).alloc (Nat.le_refl _) _).alloc (by simp) _⟩
  have t2 : ((n1 : Int) != (n1' : Int)) = false := by simp; omega
  have hq0 : R = (decide (nx.drop 0 = nx'.drop 0) && (decide (hd = hd') && decide (sn = sn'))) := by
    rw [HR.out, decide_eq_true ho, decide_eq_true he, List.drop_zero, List.drop_zero, Bool.true_and, Bool.true_and]
  have HQ0 := Lib.hid hq0; have HNN := Lib.hid hn; clear ho he hn hq0 HR
  go_wp2_with fail
  obtain ⟨W, hW⟩ : ∃ W, W = (w.alloc (.cells #[.int .i64 self, .int .i64 ep, .slice A1 n1 c1, .slice A2 n2 c2, .slice A3 n3 c3] 26)).alloc (.cells #[.int .i64 self', .int .i64 ep', .slice A1' n1' c1', .slice A2' n2' c2', .slice A3' n3' c3'] 26) := ⟨_, rfl⟩; rw [← hW]; have hz : w.heap.size + 1 < W.heap.size := by rw [hW]; simp
  have g1 : W.heap[w.heap.size]? = some (.cells #[.int .i64 self, .int .i64 ep, .slice A1 n1 c1, .slice A2 n2 c2, .slice A3 n3 c3] 26 (0, 0)) := by rw [hW]; exact (Below.heap_alloc _ _ _ (by simp)).trans (heap_alloc_new w _)
  have g2 : W.heap[w.heap.size + 1]? = some (.cells #[.int .i64 self', .int .i64 ep', .slice A1' n1' c1', .slice A2' n2' c2', .slice A3' n3' c3'] 26 (0, 0)) := by
    rw [hW]; have := heap_alloc_new (w.alloc (.cells #[.int .i64 self, .int .i64 ep, .slice A1 n1 c1, .slice A2 n2 c2, .slice A3 n3 c3] 26)) (.cells #[.int .i64 self', .int .i64 ep', .slice A1' n1' c1', .slice A2' n2' c2', .slice A3' n3' c3'] 26)
    rwa [World.size_alloc] at this
  have HB0 : Hid (Below w.heap.size w W) := by show Below _ _ _; rw [hW]; exact ((Below.refl _ _).alloc (Nat.le_refl _) _).alloc (by simp) _
  have G1 := Lib.hid g1; have G2 := Lib.hid g2; clear hW g1 g2 t0 t1 t2
  go_loopw [5] (fun i wr => ∃ k : Nat, i = .int .i64 k ∧ k ≤ n1 ∧ Hid (R = (decide (nx.drop k = nx'.drop k) && (decide (hd = hd') && decide (sn = sn'))) ∧ Below W.heap.size W wr)) (fun i _ => n1 - (intOf i).toNat)
  case atStart => exact ⟨0, rfl, Nat.zero_le _, HQ0.out, Below.refl _ _⟩
  case round =>
    obtain ⟨k, rfl, hk, hq, hb⟩ := hrel; have HQ := Lib.hid hq; have hzr := hb.size; have HBr := Lib.hid (HB0.out.trans (hb.mono (by omega))); have G1 := Lib.hid ((hb.block w.heap.size (by omega)).trans G1.out); have G2 := Lib.hid ((hb.block (w.heap.size + 1) (by omega)).trans G2.out); have HBW := Lib.hid hb; clear hq hb
    by_cases hlt : k < n1
    · obtain ⟨b, off, x, cs, rfl, hBb, hbl, hx, hcs, hlen, hcell⟩ := (H1.out.nx.below keeps_nx HBr.out).at' hlt; unfold ENx at hcs; subst hcs; have c0 := hcell 0 _ rfl; have c1 := hcell 1 _ rfl; rw [Nat.add_zero] at c0; obtain ⟨b', off', y, cs', rfl, hBb', hbl', hy, hcs', hlen', hcell'⟩ := (H2.out.nx.below keeps_nx HBr.out).at' (show k < n1' by rw [← HNN.out]; exact hlt); unfold ENx at hcs'; subst hcs'; have d0 := hcell' 0 _ rfl; have d1 := hcell' 1 _ rfl; rw [Nat.add_zero] at d0; rw [drop_same hx hy] at HQ; have a2 := cell_of_cells G1.out 2; have b2 := cell_of_cells G2.out 2; simp at a2 b2; obtain ⟨xd, xc⟩ := x; obtain ⟨yd, yc⟩ := y; simp only at c0 c1 d0 d1; have hkb : k < 281474976710656 := by omega
      have hk0 : (0 : Int) ≤ (k : Int) := by omega
      have hk1 : (k : Int) < (n1 : Int) := by omega
      have hk2 : (k : Int) < (n1' : Int) := by rw [← HNN.out]; exact hk1
      have hp1 : w.heap.size < wr.heap.size := by omega
      have hp2 : w.heap.size + 1 < wr.heap.size := by omega
      clear hcell hcell' hlen hlen' hx hy
      go_wp2_with fail
      by_cases hxy : xd = yd ∧ xc = yc
      · obtain ⟨rfl, rfl⟩ := hxy; have hq2 : R = (decide (nx.drop (k + 1) = nx'.drop (k + 1)) && (decide (hd = hd') && decide (sn = sn'))) := by
          rw [HQ.out]; simp
        have HQ2 := Lib.hid hq2; clear hq2; refine Free.wp_seq (I := fun w' => Below wr.heap.size wr w') (Gr := fun w1 w2 => Below w1.heap.size w1 w2) (by kernel_rfl) (by kernel_rfl) (Below.refl _ _).drew ?_
        apply Free.sv; intro a w1 hI hp
        · have e2 := hp.sl 2; simp at e2; refine ⟨Free.wn, ?_⟩; clear hp; go_simp; rfl
        apply Free.sv; intro a w1 hI hp
        · have e34 := hp.b 0 0; have ka2 := (hI.cell (p := ⟨w.heap.size, 2, none⟩) hp1).trans a2; refine ⟨Free.wn, ?_⟩; clear hp; go_simp; rfl
        apply Free.sv; intro a w1 hI hp
        · have e5 := hp.sl 5; simp at e5; refine ⟨Free.wn, ?_⟩; clear hp; go_simp; rfl
        apply Free.sv; intro a w1 hI hp
        · have e35 := hp.b 1 1; have e36 := hp.b 2 0; refine ⟨Free.wn, ?_⟩; clear hp; go_simp; rfl
        apply Free.sv; intro a w1 hI hp
        · have e37 := hp.b 3 0; have kc0 := (hI.cell (p := ⟨b, off + k * 2, none⟩) hbl).trans c0; have kc1 := (hI.cell (p := ⟨b, off + k * 2 + 1, none⟩) hbl).trans c1; refine ⟨Free.wn, ?_⟩; clear hp; go_simp; rfl
        apply Free.sv; intro a w1 hI hp
        · have e3 := hp.sl 3; simp at e3; refine ⟨Free.wn, ?_⟩; clear hp; go_simp; rfl
        apply Free.sv; intro a w1 hI hp
        · have e39 := hp.b 5 0; have kb2 := (hI.cell (p := ⟨w.heap.size + 1, 2, none⟩) hp2).trans b2; refine ⟨Free.wn, ?_⟩; clear hp; go_simp; rfl
        apply Free.sv; intro a w1 hI hp
        · have e5 := hp.sl 5; simp at e5; refine ⟨Free.wn, ?_⟩; clear hp; go_simp; rfl
        apply Free.sv; intro a w1 hI hp
        · have e40 := hp.b 6 1; have e41 := hp.b 7 0; refine ⟨Free.wn, ?_⟩; clear hp; go_simp; rfl
        apply Free.sv; intro a w1 hI hp
        · have e42 := hp.b 8 0; have kd0 := (hI.cell (p := ⟨b', off' + k * 2, none⟩) hbl').trans d0; have kd1 := (hI.cell (p := ⟨b', off' + k * 2 + 1, none⟩) hbl').trans d1; refine ⟨Free.wn, ?_⟩; clear hp; go_simp; rfl
        apply Free.sv; intro a w1 hI hp
        · have e38 := hp.b 4 5; have e43 := hp.b 9 0; refine ⟨Free.wn, ?_⟩; clear hp; go_simp; rfl
        refine Free.Seq.done (by simp) (fun wz hIz => ?_); simp only [List.reverse_cons, List.reverse_nil, List.nil_append, List.cons_append, Free.All, Free.eqF, forall_eq]
        skip
        simp only [Free.putL, Act.put, List.setIfInBounds_toArray, List.set_cons_zero, List.set_cons_succ]; have HB3 := Lib.hid (HBW.out.trans (hIz.mono (by omega))); clear hIz a2 b2 c0 c1 d0 d1
        dsimp only [Exit.inBlock, Exit.then]
        go_wp2_with fail
        exact ⟨⟨k + 1, by simp, by omega, HQ2.out, HB3.out⟩, by simp only [intOf]; omega⟩
      · have hr : R = false := by
          rw [HQ.out, decide_eq_false (show ¬ (⟨xd, xc⟩ : Nx) = ⟨yd, yc⟩ from fun e => hxy (by injection e with e1 e2; exact ⟨e1, e2⟩))]; simp
        have HR0 := Lib.hid hr; clear hr HQ
        by_cases hd1 : xd = yd
        · have hd2 : ¬ xc = yc := fun e => hxy ⟨hd1, e⟩
          subst hd1; have hd3 : (xc == yc) = false := by simpa using hd2
          clear hxy; refine Free.wp_seq (I := fun w' => Below wr.heap.size wr w') (Gr := fun w1 w2 => Below w1.heap.size w1 w2) (by kernel_rfl) (by kernel_rfl) (Below.refl _ _).drew ?_
          apply Free.sv; intro a w1 hI hp
          · have e2 := hp.sl 2; simp at e2; refine ⟨Free.wn, ?_⟩; clear hp; go_simp; rfl
          apply Free.sv; intro a w1 hI hp
          · have e34 := hp.b 0 0; have ka2 := (hI.cell (p := ⟨w.heap.size, 2, none⟩) hp1).trans a2; refine ⟨Free.wn, ?_⟩; clear hp; go_simp; rfl
          apply Free.sv; intro a w1 hI hp
          · have e5 := hp.sl 5; simp at e5; refine ⟨Free.wn, ?_⟩; clear hp; go_simp; rfl
          apply Free.sv; intro a w1 hI hp
          · have e35 := hp.b 1 1; have e36 := hp.b 2 0; refine ⟨Free.wn, ?_⟩; clear hp; go_simp; rfl
          apply Free.sv; intro a w1 hI hp
          · have e37 := hp.b 3 0; have kc0 := (hI.cell (p := ⟨b, off + k * 2, none⟩) hbl).trans c0; have kc1 := (hI.cell (p := ⟨b, off + k * 2 + 1, none⟩) hbl).trans c1; refine ⟨Free.wn, ?_⟩; clear hp; go_simp; rfl
          apply Free.sv; intro a w1 hI hp
          · have e3 := hp.sl 3; simp at e3; refine ⟨Free.wn, ?_⟩; clear hp; go_simp; rfl
          apply Free.sv; intro a w1 hI hp
          · have e39 := hp.b 5 0; have kb2 := (hI.cell (p := ⟨w.heap.size + 1, 2, none⟩) hp2).trans b2; refine ⟨Free.wn, ?_⟩; clear hp; go_simp; rfl
          apply Free.sv; intro a w1 hI hp
          · have e5 := hp.sl 5; simp at e5; refine ⟨Free.wn, ?_⟩; clear hp; go_simp; rfl
          apply Free.sv; intro a w1 hI hp
          · have e40 := hp.b 6 1; have e41 := hp.b 7 0; refine ⟨Free.wn, ?_⟩; clear hp; go_simp; rfl
          apply Free.sv; intro a w1 hI hp
          · have e42 := hp.b 8 0; have kd0 := (hI.cell (p := ⟨b', off' + k * 2, none⟩) hbl').trans d0; have kd1 := (hI.cell (p := ⟨b', off' + k * 2 + 1, none⟩) hbl').trans d1; refine ⟨Free.wn, ?_⟩; clear hp; go_simp; rfl
          apply Free.sv; intro a w1 hI hp
          · have e38 := hp.b 4 5; have e43 := hp.b 9 0; refine ⟨Free.wn, ?_⟩; clear hp; go_simp; rfl
          refine Free.Seq.done (by simp) (fun wz hIz => ?_); simp only [List.reverse_cons, List.reverse_nil, List.nil_append, List.cons_append, Free.All, Free.eqF, forall_eq]
          skip
          simp only [Free.putL, Act.put, List.setIfInBounds_toArray, List.set_cons_zero, List.set_cons_succ]; have HB3 := Lib.hid (HBr.out.trans (hIz.mono (by omega))); clear hIz a2 b2 c0 c1 d0 d1
          dsimp only [Exit.inBlock, Exit.then]
          go_wp2_with fail
          go_ret
          exact ⟨ret_bool (by rw [HR0.out]), HB3.out⟩
        · have hd3 : (xd == yd) = false := by simpa using hd1
          clear hxy; refine Free.wp_seq (I := fun w' => Below wr.heap.size wr w') (Gr := fun w1 w2 => Below w1.heap.size w1 w2) (by kernel_rfl) (by kernel_rfl) (Below.refl _ _).drew ?_
          apply Free.sv; intro a w1 hI hp
          · have e2 := hp.sl 2; simp at e2; refine ⟨Free.wn, ?_⟩; clear hp; go_simp; rfl
          apply Free.sv; intro a w1 hI hp
          · have e34 := hp.b 0 0; have ka2 := (hI.cell (p := ⟨w.heap.size, 2, none⟩) hp1).trans a2; refine ⟨Free.wn, ?_⟩; clear hp; go_simp; rfl
          apply Free.sv; intro a w1 hI hp
          · have e5 := hp.sl 5; simp at e5; refine ⟨Free.wn, ?_⟩; clear hp; go_simp; rfl
          apply Free.sv; intro a w1 hI hp
          · have e35 := hp.b 1 1; have e36 := hp.b 2 0; refine ⟨Free.wn, ?_⟩; clear hp; go_simp; rfl
          apply Free.sv; intro a w1 hI hp
          · have e37 := hp.b 3 0; have kc0 := (hI.cell (p := ⟨b, off + k * 2, none⟩) hbl).trans c0; have kc1 := (hI.cell (p := ⟨b, off + k * 2 + 1, none⟩) hbl).trans c1; refine ⟨Free.wn, ?_⟩; clear hp; go_simp; rfl
          apply Free.sv; intro a w1 hI hp
          · have e3 := hp.sl 3; simp at e3; refine ⟨Free.wn, ?_⟩; clear hp; go_simp; rfl
          apply Free.sv; intro a w1 hI hp
          · have e39 := hp.b 5 0; have kb2 := (hI.cell (p := ⟨w.heap.size + 1, 2, none⟩) hp2).trans b2; refine ⟨Free.wn, ?_⟩; clear hp; go_simp; rfl
          apply Free.sv; intro a w1 hI hp
          · have e5 := hp.sl 5; simp at e5; refine ⟨Free.wn, ?_⟩; clear hp; go_simp; rfl
          apply Free.sv; intro a w1 hI hp
          · have e40 := hp.b 6 1; have e41 := hp.b 7 0; refine ⟨Free.wn, ?_⟩; clear hp; go_simp; rfl
          apply Free.sv; intro a w1 hI hp
          · have e42 := hp.b 8 0; have kd0 := (hI.cell (p := ⟨b', off' + k * 2, none⟩) hbl').trans d0; have kd1 := (hI.cell (p := ⟨b', off' + k * 2 + 1, none⟩) hbl').trans d1; refine ⟨Free.wn, ?_⟩; clear hp; go_simp; rfl
          apply Free.sv; intro a w1 hI hp
          · have e38 := hp.b 4 5; have e43 := hp.b 9 0; refine ⟨Free.wn, ?_⟩; clear hp; go_simp; rfl
          refine Free.Seq.done (by simp) (fun wz hIz => ?_); simp only [List.reverse_cons, List.reverse_nil, List.nil_append, List.cons_append, Free.All, Free.eqF, forall_eq]
          skip
          simp only [Free.putL, Act.put, List.setIfInBounds_toArray, List.set_cons_zero, List.set_cons_succ]; have HB3 := Lib.hid (HBr.out.trans (hIz.mono (by omega))); clear hIz a2 b2 c0 c1 d0 d1
          dsimp only [Exit.inBlock, Exit.then]
          go_wp2_with fail
          go_ret
          exact ⟨ret_bool (by rw [HR0.out]), HB3.out⟩
    · have hkn : k = n1 := by omega
      subst hkn; have hq2 : R = (decide (hd = hd') && decide (sn = sn')) := by
        rw [HQ.out, drop_done HL1.out (by rw [HL2.out, HNN.out]), Bool.true_and]
      have HQ2 := Lib.hid hq2; have a2 := cell_of_cells G1.out 2; have a3 := cell_of_cells G1.out 3; have b3 := cell_of_cells G2.out 3; simp at a2 a3 b3; clear hq2 HQ HQ0
      go_wp2_with fail
      refine (rsameall_any hd hd' A2 n2 c2 A2' n2' c2' B1 B2 wr (H1.out.hd.below keeps_ms HBr.out) (H2.out.hd.below keeps_ms HBr.out)).mono ?_; rintro e9 w9 ⟨rfl, hb9⟩; have hz9 := hb9.size; have HB9 := Lib.hid (HBr.out.trans (hb9.mono (by omega))); have G1 := Lib.hid ((hb9.block w.heap.size (by omega)).trans G1.out); have G2 := Lib.hid ((hb9.block (w.heap.size + 1) (by omega)).trans G2.out); have a4 := cell_of_cells G1.out 4; have b4 := cell_of_cells G2.out 4; simp at a4 b4; obtain ⟨D, hD⟩ : ∃ D, D = decide (hd = hd') := ⟨_, rfl⟩; rw [← hD] at HQ2 ⊢; clear hb9 a2 a3 b3 hD
      cases D
      · go_wp2_with fail
        go_ret
        exact ⟨ret_bool (by rw [HQ2.out, Bool.false_and]), HB9.out⟩
      · go_wp2_with fail
        refine (rsamemarks_any sn sn' A3 n3 c3 A3' n3' c3' B1 B2 w9 (H1.out.sn.below keeps_mk HB9.out) (H2.out.sn.below keeps_mk HB9.out)).mono ?_; rintro e10 w10 ⟨rfl, hb10⟩; have HB10 := Lib.hid (HB9.out.trans (hb10.mono (by omega))); clear hb10 a4 b4
        go_wp2_with fail
        go_ret
        exact ⟨ret_bool (by rw [HQ2.out, Bool.true_and]), HB10.out⟩
end Go.Proofs.Ytcnlgcmooegfkaa
namespace Go.Proofs.Ytcnlgcmooegfkaa
open Go.RowKit Mg Sn

def sA : St := ⟨1, 2, [], [⟨⟨0, 3, 1, 1⟩, [97]⟩], []⟩
theorem ckA : ck sA = 0 := by decide
theorem lenA : (ptB sA).length = 20 := by
  rw [ptB, if_pos ckA, putB, List.length_append, be_len, bodyB]; simp only [List.length_append, preB_len, nxsB_len, mssB_len, mksB_len, beL_len, sA]; simp [Sn.bytes, gaps]
theorem getA : getS (ptB sA) = some sA := (getS_iff _ _).2 ⟨(ck_ok _).1 ckA, by rw [ptB, if_pos ckA]⟩

set_option maxRecDepth 100000 in
set_option maxHeartbeats 4000000 in
theorem sawake_any (w : World) : Calls Try.prog 15 #[] w fun e w' => e = .returned (.bool true) ∧ Below w.heap.size w w' := by
  have kc := fun (w : World) (C : Array Value) (n c : Nat) => Lib.run_convert_bytes_const (P := Try.prog) w 28 5 C n c Try.underlying28 Try.underlying5
  go_enter Try.func15, Try.ntmps15
  go_wp2_with fail
  obtain ⟨W, hW⟩ : ∃ W, W = ((w.alloc (.cells #[.int .u8 97] 5 (1, 2))).alloc (.cells #[.int .i64 0, .int .i64 3, .int .i64 1, .int .i64 1, .slice (some ⟨w.heap.size, 0, none⟩) 1 1] 54)).alloc (.cells #[.int .i64 1, .int .i64 2, .slice none 0 0, .slice (some ⟨w.heap.size + 1, 0, none⟩) 1 1, .slice none 0 0] 26) := ⟨_, rfl⟩; rw [← hW]; have g0 : W.heap[w.heap.size]? = some (.cells #[.int .u8 97] 5 (1, 2)) := by rw [hW]; exact (Below.heap_alloc _ _ _ (by simp; omega)).trans ((Below.heap_alloc _ _ _ (by simp)).trans (heap_alloc_new w _))
  have g1 : W.heap[w.heap.size + 1]? = some (.cells #[.int .i64 0, .int .i64 3, .int .i64 1, .int .i64 1, .slice (some ⟨w.heap.size, 0, none⟩) 1 1] 54 (0, 0)) := by
    rw [hW]; have := heap_alloc_new (w.alloc (.cells #[.int .u8 97] 5 (1, 2))) (.cells #[.int .i64 0, .int .i64 3, .int .i64 1, .int .i64 1, .slice (some ⟨w.heap.size, 0, none⟩) 1 1] 54); rw [World.size_alloc] at this; exact (Below.heap_alloc _ _ _ (by simp)).trans this
  have g2 : W.heap[w.heap.size + 2]? = some (.cells #[.int .i64 1, .int .i64 2, .slice none 0 0, .slice (some ⟨w.heap.size + 1, 0, none⟩) 1 1, .slice none 0 0] 26 (0, 0)) := by
    rw [hW]; have := heap_alloc_new ((w.alloc (.cells #[.int .u8 97] 5 (1, 2))).alloc (.cells #[.int .i64 0, .int .i64 3, .int .i64 1, .int .i64 1, .slice (some ⟨w.heap.size, 0, none⟩) 1 1] 54)) (.cells #[.int .i64 1, .int .i64 2, .slice none 0 0, .slice (some ⟨w.heap.size + 1, 0, none⟩) 1 1, .slice none 0 0] 26)
    rwa [World.size_alloc, World.size_alloc] at this
  have hz : W.heap.size = w.heap.size + 3 := by rw [hW]; simp
  have HB0 : Hid (Below w.heap.size w W) := by show Below _ _ _; rw [hW]; exact (((Below.refl _ _).alloc (Nat.le_refl _) _).alloc (by simp) _).alloc (by simp; omega) _
  have hrd : RdS W 0 ⟨none, 0, 0, some ⟨w.heap.size + 1, 0, none⟩, 1, 1, none, 0, 0⟩ sA := by
    refine ⟨RdE.nil _ _ _ _, ⟨rfl, Nat.le_refl _, by show 1 ≤ 281474976710656; omega, fun _ => ⟨w.heap.size + 1, 0, rfl, Nat.zero_le _, by omega, fun j x hx => ?_⟩⟩, RdE.nil _ _ _ _⟩
    match j, hx with
    | 0, hx =>
      injection hx with hx
      subst hx; refine ⟨_, ⟨some ⟨w.heap.size, 0, none⟩, 1, rfl, ⟨rfl, Nat.le_refl _, by simp, fun _ => ⟨w.heap.size, 0, rfl, by omega, fun i u hu => ?_⟩⟩, fun _ => ⟨_, _, rfl, Nat.zero_le _⟩⟩, rfl, fun i u hu => ?_⟩
      · match i, hu with
        | 0, hu =>
          injection hu with hu
          subst hu; rw [cell_of_cells g0]; rfl
      · rw [Nat.zero_mul, Nat.add_zero, Nat.zero_add, cell_of_cells g1]; rw [← hu]; simp
  have HRD := Lib.hid hrd; have G2 := Lib.hid g2; clear hW g0 g1 g2 hrd; refine (put_st sA ⟨none, 0, 0, some ⟨w.heap.size + 1, 0, none⟩, 1, 1, none, 0, 0⟩ 0 W HRD.out).mono ?_; rintro e1 w1 ⟨A1, n1, c1, rfl, hn1, ho1, hb1⟩; rw [lenA] at hn1; subst hn1; rw [ckA]; have hs1 := hb1.size; have HB1 := Lib.hid hb1; have HRp := Lib.hid (OwnB.rd ho1 lenA (by omega)); clear ho1 hb1
  go_wp2_with fail
  refine (sget_any A1 20 c1 (ptB sA) w1 HRp.out).mono ?_; rintro e2 w2 ⟨hb2, hg2⟩; rw [getA] at hg2; obtain ⟨v2, rfl, hr2⟩ := hg2; have hs2 := hb2.size; have HB2 := Lib.hid (HB1.out.trans (hb2.mono hs1)); have HR2 := Lib.hid hr2; have G2' := Lib.hid ((HB2.out.block (w.heap.size + 2) (by omega)).trans G2.out); have HR1 := Lib.hid (HRD.out.below HB2.out); clear hb2 hr2 HB1 G2 HRD HRp; obtain ⟨B1, m1, k1, B2, m2, k2, B3, m3, k3⟩ := v2; have HSM : Hid (∀ w' : World, Below w2.heap.size w2 w' → Calls Try.prog 14 #[.agg #[.int .i64 1, .int .i64 2, .slice none 0 0, .slice (some ⟨w.heap.size + 1, 0, none⟩) 1 1, .slice none 0 0], .agg #[.int .i64 1, .int .i64 2, .slice B1 m1 k1, .slice B2 m2 k2, .slice B3 m3 k3]] w' fun e w'' => e = .returned (.bool true) ∧ Below w'.heap.size w' w'') := fun w' h => by
    have := rsamestate_any sA sA _ _ 0 w1.heap.size w' (HR1.out.below h) (HR2.out.below h); rw [show decide (sA = sA) = true by simp] at this; exact this
  have a0 := cell_of_cells G2'.out 0; have a1 := cell_of_cells G2'.out 1; have a2 := cell_of_cells G2'.out 2; have a3 := cell_of_cells G2'.out 3; have a4 := cell_of_cells G2'.out 4; simp at a0 a1 a2 a3 a4; have hlt : w.heap.size + 2 < w2.heap.size := by omega
  show _
  unfold stv sA; simp only; clear HR1 HR2 G2'
  go_wp2_with fail
  refine (HSM.out _ ((Below.refl _ _).alloc (Nat.le_refl _) _)).mono ?_; rintro e3 w3 ⟨rfl, hb3⟩; have HB3 := Lib.hid (HB0.out.trans ((HB2.out.trans (((Below.refl w2.heap.size w2).alloc (Nat.le_refl _) _ |>.trans (hb3.mono (by simp))).mono (by omega))).mono (by omega))); clear hb3
  go_wp2_with fail
  go_ret
  exact ⟨rfl, HB3.out⟩
end Go.Proofs.Ytcnlgcmooegfkaa
namespace Go.Proofs.Ytcnlgcmooegfkaa
open Go.RowKit Mg Sn

theorem str_of {w : World} {A : Option Addr} {n c : Nat} {l : List UInt8} (h : Rd w A n c l) : (convert 28 9 (.slice A n c)).run Try.prog w = .ok (.string ⟨l.toArray⟩) w :=
  h.string (P := Try.prog) 28 9 5 Try.underlying28 Try.underlying5 Try.underlying9
theorem put_get {s : St} (h : ck s = 0) : getS (ptB s) = some s := (getS_iff _ _).2 ⟨(ck_ok _).1 h, by rw [ptB, if_pos h]⟩
theorem get_put' {l : List UInt8} {s : St} (h : getS l = some s) : ck s = 0 ∧ ptB s = l := by
  obtain ⟨h1, h2⟩ := (getS_iff _ _).1 h; have h3 := (ck_ok _).2 h1; exact ⟨h3, by rw [ptB, if_pos h3]; exact h2⟩
/-- a right state's bytes are not too many -/
theorem ptB_len {s : St} (h : ck s = 0) : (ptB s).length ≤ 1600004 := by
  have := bodyB_len ((ck_ok _).1 h); rw [ptB, if_pos h, putB, List.length_append, be_len]; omega
end Go.Proofs.Ytcnlgcmooegfkaa
namespace Go.Proofs.Ytcnlgcmooegfkaa
open Go.RowKit Mg Sn

theorem RdE.take' {α : Type} {E : ElP α} {size : Nat} {w : World} {B : Nat} {A : Option Addr} {n c : Nat} {l : List α} (h : RdE E size w B A n c l) {k : Nat} (hk : k ≤ n) : RdE E size w B A k c (l.take k) :=
  ⟨by rw [List.length_take, h.len]; exact Nat.min_eq_left hk, Nat.le_trans hk h.cap, Nat.le_trans hk h.big, fun hn => by
    obtain ⟨b, off, e, hB, hb, hc⟩ := h.at_ (by omega); refine ⟨b, off, e, hB, hb, fun j x hx => hc j x ?_⟩; rw [List.getElem?_take] at hx
    split at hx
    · exact hx
    · cases hx⟩

set_option maxRecDepth 100000 in
set_option maxHeartbeats 8000000 in
theorem rholds_any (s : St) (v : Sv) (B : Nat) (w : World) (hR : RdS w B v s) : Calls Try.prog 54 #[stv s v] w fun e w' => e = .returned (.bool (holdB s)) ∧ Below w.heap.size w w' := by
  obtain ⟨R, hRR⟩ : ∃ R, R = holdB s := ⟨_, rfl⟩; rw [← hRR]; have HR := Lib.hid hR.hd; have HX := Lib.hid hR.nx; have HL := Lib.hid hR.hd.len; have hbig := hR.hd.big; have hcap := hR.hd.cap; clear hR; obtain ⟨self, ep, nx, hd, sn⟩ := s; obtain ⟨A1, n1, c1, A2, n2, c2, A3, n3, c3⟩ := v; unfold stv; simp only at HR HX HL hbig hcap ⊢; have H0 : Hid (R = (appB self ep ((hd.take 0).map (·.i)) (hd.drop 0) && (hd.drop 0).all (leM self ep nx))) := by
    show R = _
    rw [hRR, holdB, List.drop_zero]; rfl
  clear hRR
  go_enter Try.func54, Try.ntmps54
  go_wp2_with fail
  obtain ⟨W, hW⟩ : ∃ W, W = (w.alloc (.cells #[.int .i64 self, .int .i64 ep, .slice A1 n1 c1, .slice A2 n2 c2, .slice A3 n3 c3] 26)).alloc (.cells #[.int .i64 0, .int .i64 0, .int .i64 0, .int .i64 0, .int .i64 0, .slice A1 n1 c1, .slice none 0 0, .int .i64 0, .slice none 0 0] 109) := ⟨_, rfl⟩; rw [← hW]; have hz : w.heap.size + 1 < W.heap.size := by rw [hW]; simp
  have g1 : W.heap[w.heap.size]? = some (.cells #[.int .i64 self, .int .i64 ep, .slice A1 n1 c1, .slice A2 n2 c2, .slice A3 n3 c3] 26 (0, 0)) := by rw [hW]; exact (Below.heap_alloc _ _ _ (by simp)).trans (heap_alloc_new w _)
  have g2 : W.heap[w.heap.size + 1]? = some (.cells #[.int .i64 0, .int .i64 0, .int .i64 0, .int .i64 0, .int .i64 0, .slice A1 n1 c1, .slice none 0 0, .int .i64 0, .slice none 0 0] 109 (0, 0)) := by
    rw [hW]; have := heap_alloc_new (w.alloc (.cells #[.int .i64 self, .int .i64 ep, .slice A1 n1 c1, .slice A2 n2 c2, .slice A3 n3 c3] 26)) (.cells #[.int .i64 0, .int .i64 0, .int .i64 0, .int .i64 0, .int .i64 0, .slice A1 n1 c1, .slice none 0 0, .int .i64 0, .slice none 0 0] 109)
    rwa [World.size_alloc] at this
  have HB : Hid (Below w.heap.size w W) := by show Below _ _ _; rw [hW]; exact ((Below.refl _ _).alloc (Nat.le_refl _) _).alloc (by simp) _
  have G1 := Lib.hid g1; have G2 := Lib.hid g2; clear hW g1 g2
  go_loopw [4] (fun i wr => ∃ k : Nat, i = .int .i64 k ∧ k ≤ n2 ∧ Hid (R = (appB self ep ((hd.take k).map (·.i)) (hd.drop k) && (hd.drop k).all (leM self ep nx)) ∧ Below W.heap.size W wr)) (fun i _ => n2 - (intOf i).toNat)
  case atStart => exact ⟨0, rfl, Nat.zero_le _, H0.out, Below.refl _ _⟩
  case round =>
    obtain ⟨k, rfl, hk, hq, hb⟩ := hrel; have HQ := Lib.hid hq; have HBW := Lib.hid hb; have hzr := hb.size; have HBr := Lib.hid (HB.out.trans (hb.mono (by omega))); have G1 := Lib.hid ((hb.block w.heap.size (by omega)).trans G1.out); have G2 := Lib.hid ((hb.block (w.heap.size + 1) (by omega)).trans G2.out); have s3 : wr.cell? ⟨w.heap.size, 3, none⟩ = some (.slice A2 n2 c2) := by rw [cell_of_cells G1.out]; rfl
    clear hq hb
    by_cases hlt : k < n2
    · obtain ⟨b, off, x, cs, rfl, hBb, hbl, hx, hcs, hlen, hcell⟩ := (HR.out.below keeps_ms HBr.out).at' hlt; obtain ⟨Ax, cx, rfl, hrx⟩ := hcs; have c0 := hcell 0 _ rfl; have c1 := hcell 1 _ rfl; have c2' := hcell 2 _ rfl; have c3' := hcell 3 _ rfl; have c4 := hcell 4 _ rfl; rw [Nat.add_zero] at c0; have hall : (hd.drop k).all (leM self ep nx) = (leM self ep nx x && (hd.drop (k + 1)).all (leM self ep nx)) := by
        obtain ⟨h9, rfl⟩ := List.getElem?_eq_some_iff.1 hx; rw [List.drop_eq_getElem_cons h9, List.all_cons]
      have htk : (hd.take (k + 1)).map (·.i) = (hd.take k).map (·.i) ++ [x.i] := by rw [List.take_add_one, hx]; simp
      rw [appB_drop hx, ← htk, hall] at HQ; have hok : okM self ep ((hd.take k).map (·.i)) x = true → leM self ep nx x = true → Hid (R = (appB self ep ((hd.take (k + 1)).map (·.i)) (hd.drop (k + 1)) && (hd.drop (k + 1)).all (leM self ep nx))) := fun h1 h2 => by
        show R = _
        rw [HQ.out, h1, h2, Bool.true_and, Bool.true_and]
      have hbad : okM self ep ((hd.take k).map (·.i)) x = false ∨ leM self ep nx x = false → Hid (R = false) := fun h => by
        show R = false
        rw [HQ.out]
        rcases h with h | h <;> rw [h] <;> simp
      obtain ⟨⟨xo, xd, xe, xc⟩, xl⟩ := x; simp only at c0 c1 c2' c3' c4; obtain ⟨nl, hnl⟩ : ∃ nl, nl = xl.length := ⟨_, rfl⟩; rw [← hnl] at c4; have HNL := Lib.hid hnl; have hkb : k < 281474976710656 := by omega
      clear hcell hlen hx hrx hnl hall htk
      go_wp2_with fail
      obtain ⟨W5, hW5⟩ : ∃ W5, W5 = wr.alloc (.cells #[.int .i64 xo, .int .i64 xd, .int .i64 xe, .int .i64 xc, .slice Ax nl cx] 54) := ⟨_, rfl⟩; rw [← hW5]; have hz5 : wr.heap.size < W5.heap.size := by rw [hW5]; simp
      have i0 : W5.cell? ⟨wr.heap.size, 0, none⟩ = some (.int .i64 xo) := by rw [hW5]; exact World.cell?_alloc_mark wr _ _ _ 0
      have i1 : W5.cell? ⟨wr.heap.size, 1, none⟩ = some (.int .i64 xd) := by rw [hW5]; exact World.cell?_alloc_mark wr _ _ _ 1
      have i2 : W5.cell? ⟨wr.heap.size, 2, none⟩ = some (.int .i64 xe) := by rw [hW5]; exact World.cell?_alloc_mark wr _ _ _ 2
      have i3 : W5.cell? ⟨wr.heap.size, 3, none⟩ = some (.int .i64 xc) := by rw [hW5]; exact World.cell?_alloc_mark wr _ _ _ 3
      have i4 : W5.cell? ⟨wr.heap.size, 4, none⟩ = some (.slice Ax nl cx) := by rw [hW5]; exact World.cell?_alloc_mark wr _ _ _ 4
      have hb5 : Below wr.heap.size wr W5 := by rw [hW5]; exact (Below.refl _ _).alloc (Nat.le_refl _) _
      have HB5 := Lib.hid hb5; have G15 := Lib.hid ((hb5.block w.heap.size (by omega)).trans G1.out); have G25 := Lib.hid ((hb5.block (w.heap.size + 1) (by omega)).trans G2.out); have a0 : W5.cell? ⟨w.heap.size, 0, none⟩ = some (.int .i64 self) := by rw [cell_of_cells G15.out]; rfl
      have a3 : W5.cell? ⟨w.heap.size, 3, none⟩ = some (.slice (some ⟨b, off, none⟩) n2 c2) := by rw [cell_of_cells G15.out]; rfl
      have hzw : w.heap.size < W5.heap.size := by omega
      have HCM : Hid (∀ W', Calls Try.prog 61 #[.agg #[.int .i64 xo, .int .i64 xd, .int .i64 xe, .int .i64 xc, .slice Ax nl cx]] W' fun e w' => e = .returned (.int .i64 (chkM ⟨xo, xd, xe, xc⟩ nl)) ∧ Below W'.heap.size W' w') := fun W' => rcheckm_any ⟨xo, xd, xe, xc⟩ Ax nl cx W'
      obtain ⟨CM, hCM⟩ : ∃ z, z = chkM ⟨xo, xd, xe, xc⟩ nl := ⟨_, rfl⟩; rw [← hCM] at HCM; have HCE := Lib.hid hCM; clear hCM hW5 hb5 c0 c1 c2' c3' c4 s3
      by_cases q0 : CM = 0
      rotate_left
      · have HR0 := hbad (.inl (by
          unfold okM; rw [decide_eq_false (show ¬ chkM _ _ = 0 by rw [← HNL.out, ← HCE.out]; exact q0)]; simp))
        have t0 : (CM != 0) = true := by simpa using q0
        refine Free.wp_seq (I := fun w' => Below W5.heap.size W5 w') (Gr := fun w1 w2 => Below w1.heap.size w1 w2) (by kernel_rfl) (by kernel_rfl) (Below.refl _ _).drew ?_
        apply Free.sv; intro a w1 hI hp
        · have e5 := hp.sl 5; simp at e5; have ki0 := (hI.cell (p := ⟨wr.heap.size, 0, none⟩) hz5).trans i0; have ki1 := (hI.cell (p := ⟨wr.heap.size, 1, none⟩) hz5).trans i1; have ki2 := (hI.cell (p := ⟨wr.heap.size, 2, none⟩) hz5).trans i2; have ki3 := (hI.cell (p := ⟨wr.heap.size, 3, none⟩) hz5).trans i3; have ki4 := (hI.cell (p := ⟨wr.heap.size, 4, none⟩) hz5).trans i4; refine ⟨Free.wn, ?_⟩; clear hp; go_simp; rfl
        refine Free.Seq.call (T := Free.eqF (.int .i64 CM)) (fun _ _ _ h _ => h) (fun a w1 hI hp => ?_) ?_
        · have e21 := hp.b 0 0; refine ⟨Free.wn, 61, #[.agg #[.int .i64 xo, .int .i64 xd, .int .i64 xe, .int .i64 xc, .slice Ax nl cx]], ?_, ?_⟩
          · clear hp; go_simp
          · refine (HCM.out w1).mono ?_; rintro e w' ⟨rfl, hb⟩; exact ⟨_, rfl, rfl, hb, hI.trans (hb.mono hI.size)⟩
        apply Free.sv; intro a w1 hI hp
        · have e22 := hp.b 1 0; refine ⟨Free.wn, ?_⟩; clear hp; go_simp; rfl
        apply Free.sv; intro a w1 hI hp
        · have e23 := hp.b 2 0; refine ⟨Free.wn, ?_⟩; clear hp; go_simp; rfl
        refine Free.sp 3 0 ?_; refine Free.sp 3 1 ?_; refine Free.sp 3 2 ?_; refine Free.sp 3 3 ?_; refine Free.sp 3 4 ?_; refine Free.sp 3 5 ?_
        apply Free.sv; intro a w1 hI hp
        · have e24 := hp.b 3 6; have e30 := hp.b 9 0; refine ⟨Free.wn, ?_⟩; clear hp; go_simp; rfl
        apply Free.sv; intro a w1 hI hp
        · have e31 := hp.b 10 0; refine ⟨Free.wn, ?_⟩; clear hp; go_simp; rfl
        refine Free.sp 11 0 ?_; refine Free.sp 11 1 ?_; refine Free.sp 11 2 ?_; refine Free.sp 11 3 ?_; refine Free.sp 11 4 ?_; refine Free.sp 11 5 ?_; refine Free.sp 11 6 ?_
        apply Free.sv; intro a w1 hI hp
        · have e32 := hp.b 11 7; have e39 := hp.b 18 0; refine ⟨Free.wn, ?_⟩; clear hp; go_simp; rfl
        refine Free.Seq.done (by simp) (fun wz hIz => ?_); simp only [List.reverse_cons, List.reverse_nil, List.nil_append, List.cons_append, Free.All, Free.eqF, forall_eq]
        skip
        simp only [Free.putL, Act.put, List.setIfInBounds_toArray, List.set_cons_zero, List.set_cons_succ]; have HBZ := Lib.hid (HBr.out.trans ((HB5.out.trans (hIz.mono (by omega))).mono (by omega))); clear hIz
        dsimp only [Exit.inBlock, Exit.then]
        go_wp2_with fail
        go_ret
        exact ⟨ret_bool (by rw [HR0.out]), HBZ.out⟩
      have t0 : (CM != 0) = false := by simpa using q0
      have q0' : chkM ⟨xo, xd, xe, xc⟩ xl.length = 0 := by rw [← HNL.out, ← HCE.out]; exact q0
      by_cases q1 : xd = self
      · have HR0 := hbad (.inl (by
          unfold okM; rw [decide_eq_false (show ¬ xd ≠ self from fun h => h q1)]; simp))
        have t1 : (xd == self) = true := by simpa using q1
        refine Free.wp_seq (I := fun w' => Below W5.heap.size W5 w') (Gr := fun w1 w2 => Below w1.heap.size w1 w2) (by kernel_rfl) (by kernel_rfl) (Below.refl _ _).drew ?_
        apply Free.sv; intro a w1 hI hp
        · have e5 := hp.sl 5; simp at e5; have ki0 := (hI.cell (p := ⟨wr.heap.size, 0, none⟩) hz5).trans i0; have ki1 := (hI.cell (p := ⟨wr.heap.size, 1, none⟩) hz5).trans i1; have ki2 := (hI.cell (p := ⟨wr.heap.size, 2, none⟩) hz5).trans i2; have ki3 := (hI.cell (p := ⟨wr.heap.size, 3, none⟩) hz5).trans i3; have ki4 := (hI.cell (p := ⟨wr.heap.size, 4, none⟩) hz5).trans i4; refine ⟨Free.wn, ?_⟩; clear hp; go_simp; rfl
        refine Free.Seq.call (T := Free.eqF (.int .i64 CM)) (fun _ _ _ h _ => h) (fun a w1 hI hp => ?_) ?_
        · have e21 := hp.b 0 0; refine ⟨Free.wn, 61, #[.agg #[.int .i64 xo, .int .i64 xd, .int .i64 xe, .int .i64 xc, .slice Ax nl cx]], ?_, ?_⟩
          · clear hp; go_simp
          · refine (HCM.out w1).mono ?_; rintro e w' ⟨rfl, hb⟩; exact ⟨_, rfl, rfl, hb, hI.trans (hb.mono hI.size)⟩
        apply Free.sv; intro a w1 hI hp
        · have e22 := hp.b 1 0; refine ⟨Free.wn, ?_⟩; clear hp; go_simp; rfl
        apply Free.sv; intro a w1 hI hp
        · have e23 := hp.b 2 0; refine ⟨Free.wn, ?_⟩; clear hp; go_simp; rfl
        apply Free.sv; intro a w1 hI hp
        · have e24 := hp.b 3 0; have e5 := hp.sl 5; simp at e5; refine ⟨hp.wt e24, ?_⟩; clear hp; go_simp; rfl
        apply Free.sv; intro a w1 hI hp
        · have e24 := hp.b 3 1; have e25 := hp.b 4 0; refine ⟨hp.wt e24, ?_⟩; clear hp; go_simp; rfl
        apply Free.sv; intro a w1 hI hp
        · have e24 := hp.b 3 2; have e26 := hp.b 5 0; have ki1 := (hI.cell (p := ⟨wr.heap.size, 1, none⟩) hz5).trans i1; refine ⟨hp.wt e24, ?_⟩; clear hp; go_simp; rfl
        apply Free.sv; intro a w1 hI hp
        · have e24 := hp.b 3 3; have e1 := hp.sl 1; simp at e1; refine ⟨hp.wt e24, ?_⟩; clear hp; go_simp; rfl
        apply Free.sv; intro a w1 hI hp
        · have e24 := hp.b 3 4; have e28 := hp.b 7 0; have ka0 := (hI.cell (p := ⟨w.heap.size, 0, none⟩) hzw).trans a0; refine ⟨hp.wt e24, ?_⟩; clear hp; go_simp; rfl
        apply Free.sv; intro a w1 hI hp
        · have e24 := hp.b 3 5; have e27 := hp.b 6 2; have e29 := hp.b 8 0; refine ⟨hp.wt e24, ?_⟩; clear hp; go_simp; rfl
        apply Free.sv; intro a w1 hI hp
        · have e24 := hp.b 3 6; have e30 := hp.b 9 0; refine ⟨Free.wn, ?_⟩; clear hp; go_simp; rfl
        apply Free.sv; intro a w1 hI hp
        · have e31 := hp.b 10 0; refine ⟨Free.wn, ?_⟩; clear hp; go_simp; rfl
        refine Free.sp 11 0 ?_; refine Free.sp 11 1 ?_; refine Free.sp 11 2 ?_; refine Free.sp 11 3 ?_; refine Free.sp 11 4 ?_; refine Free.sp 11 5 ?_; refine Free.sp 11 6 ?_
        apply Free.sv; intro a w1 hI hp
        · have e32 := hp.b 11 7; have e39 := hp.b 18 0; refine ⟨Free.wn, ?_⟩; clear hp; go_simp; rfl
        refine Free.Seq.done (by simp) (fun wz hIz => ?_); simp only [List.reverse_cons, List.reverse_nil, List.nil_append, List.cons_append, Free.All, Free.eqF, forall_eq]
        skip
        simp only [Free.putL, Act.put, List.setIfInBounds_toArray, List.set_cons_zero, List.set_cons_succ]; have HBZ := Lib.hid (HBr.out.trans ((HB5.out.trans (hIz.mono (by omega))).mono (by omega))); clear hIz
        dsimp only [Exit.inBlock, Exit.then]
        go_wp2_with fail
        go_ret
        exact ⟨ret_bool (by rw [HR0.out]), HBZ.out⟩
      have t1 : (xd == self) = false := by simpa using q1
      have HHS : Hid (∀ W', Below W5.heap.size W5 W' → Calls Try.prog 73 #[.slice (some ⟨b, off, none⟩) k c2, .agg #[.int .i64 xo, .int .i64 xd, .int .i64 xe, .int .i64 xc]] W' fun e w' => e = .returned (.bool (decide ((⟨xo, xd, xe, xc⟩ : Mid) ∈ (hd.take k).map (·.i)))) ∧ Below W'.heap.size W' w') := fun W' h => by
        exact rhas_any (hd.take k) (some ⟨b, off, none⟩) k c2 B ⟨xo, xd, xe, xc⟩ W' (((HR.out.below keeps_ms (HBr.out.trans ((HB5.out.trans (h.mono (by omega))).mono (by omega))))).take' hk)
      obtain ⟨HH, hHH⟩ : ∃ z, z = decide ((⟨xo, xd, xe, xc⟩ : Mid) ∈ (hd.take k).map (·.i)) := ⟨_, rfl⟩; rw [← hHH] at HHS; have HHE := Lib.hid hHH; clear hHH; have hk0 : (0 : Int) ≤ (k : Int) := by omega
      have hk1 : (k : Int) ≤ (c2 : Int) := by omega
      have hk2 : k ≤ c2 := by omega
      refine Free.wp_seq (I := fun w' => Below W5.heap.size W5 w') (Gr := fun w1 w2 => Below w1.heap.size w1 w2) (by kernel_rfl) (by kernel_rfl) (Below.refl _ _).drew ?_
      apply Free.sv; intro a w1 hI hp
      · have e5 := hp.sl 5; simp at e5; have ki0 := (hI.cell (p := ⟨wr.heap.size, 0, none⟩) hz5).trans i0; have ki1 := (hI.cell (p := ⟨wr.heap.size, 1, none⟩) hz5).trans i1; have ki2 := (hI.cell (p := ⟨wr.heap.size, 2, none⟩) hz5).trans i2; have ki3 := (hI.cell (p := ⟨wr.heap.size, 3, none⟩) hz5).trans i3; have ki4 := (hI.cell (p := ⟨wr.heap.size, 4, none⟩) hz5).trans i4; refine ⟨Free.wn, ?_⟩; clear hp; go_simp; rfl
      refine Free.Seq.call (T := Free.eqF (.int .i64 CM)) (fun _ _ _ h _ => h) (fun a w1 hI hp => ?_) ?_
      · have e21 := hp.b 0 0; refine ⟨Free.wn, 61, #[.agg #[.int .i64 xo, .int .i64 xd, .int .i64 xe, .int .i64 xc, .slice Ax nl cx]], ?_, ?_⟩
        · clear hp; go_simp
        · refine (HCM.out w1).mono ?_; rintro e w' ⟨rfl, hb⟩; exact ⟨_, rfl, rfl, hb, hI.trans (hb.mono hI.size)⟩
      apply Free.sv; intro a w1 hI hp
      · have e22 := hp.b 1 0; refine ⟨Free.wn, ?_⟩; clear hp; go_simp; rfl
      apply Free.sv; intro a w1 hI hp
      · have e23 := hp.b 2 0; refine ⟨Free.wn, ?_⟩; clear hp; go_simp; rfl
      apply Free.sv; intro a w1 hI hp
      · have e24 := hp.b 3 0; have e5 := hp.sl 5; simp at e5; refine ⟨hp.wt e24, ?_⟩; clear hp; go_simp; rfl
      apply Free.sv; intro a w1 hI hp
      · have e24 := hp.b 3 1; have e25 := hp.b 4 0; refine ⟨hp.wt e24, ?_⟩; clear hp; go_simp; rfl
      apply Free.sv; intro a w1 hI hp
      · have e24 := hp.b 3 2; have e26 := hp.b 5 0; have ki1 := (hI.cell (p := ⟨wr.heap.size, 1, none⟩) hz5).trans i1; refine ⟨hp.wt e24, ?_⟩; clear hp; go_simp; rfl
      apply Free.sv; intro a w1 hI hp
      · have e24 := hp.b 3 3; have e1 := hp.sl 1; simp at e1; refine ⟨hp.wt e24, ?_⟩; clear hp; go_simp; rfl
      apply Free.sv; intro a w1 hI hp
      · have e24 := hp.b 3 4; have e28 := hp.b 7 0; have ka0 := (hI.cell (p := ⟨w.heap.size, 0, none⟩) hzw).trans a0; refine ⟨hp.wt e24, ?_⟩; clear hp; go_simp; rfl
      apply Free.sv; intro a w1 hI hp
      · have e24 := hp.b 3 5; have e27 := hp.b 6 2; have e29 := hp.b 8 0; refine ⟨hp.wt e24, ?_⟩; clear hp; go_simp; rfl
      apply Free.sv; intro a w1 hI hp
      · have e24 := hp.b 3 6; have e30 := hp.b 9 0; refine ⟨Free.wn, ?_⟩; clear hp; go_simp; rfl
      apply Free.sv; intro a w1 hI hp
      · have e31 := hp.b 10 0; refine ⟨Free.wn, ?_⟩; clear hp; go_simp; rfl
      apply Free.sv; intro a w1 hI hp
      · have e32 := hp.b 11 0; have e1 := hp.sl 1; simp at e1; refine ⟨hp.wt e32, ?_⟩; clear hp; go_simp; rfl
      apply Free.sv; intro a w1 hI hp
      · have e32 := hp.b 11 1; have e33 := hp.b 12 0; have ka3 := (hI.cell (p := ⟨w.heap.size, 3, none⟩) hzw).trans a3; refine ⟨hp.wt e32, ?_⟩; clear hp; go_simp; rfl
      apply Free.sv; intro a w1 hI hp
      · have e32 := hp.b 11 2; have e4 := hp.sl 4; simp at e4; refine ⟨hp.wt e32, ?_⟩; clear hp; go_simp; rfl
      apply Free.sv; intro a w1 hI hp
      · have e32 := hp.b 11 3; have e34 := hp.b 13 1; have e35 := hp.b 14 0; refine ⟨hp.wt e32, ?_⟩; clear hp; go_simp; rfl
      apply Free.sv; intro a w1 hI hp
      · have e32 := hp.b 11 4; have e5 := hp.sl 5; simp at e5; refine ⟨hp.wt e32, ?_⟩; clear hp; go_simp; rfl
      apply Free.sv; intro a w1 hI hp
      · have e32 := hp.b 11 5; have e37 := hp.b 16 0; have ki0 := (hI.cell (p := ⟨wr.heap.size, 0, none⟩) hz5).trans i0; have ki1 := (hI.cell (p := ⟨wr.heap.size, 1, none⟩) hz5).trans i1; have ki2 := (hI.cell (p := ⟨wr.heap.size, 2, none⟩) hz5).trans i2; have ki3 := (hI.cell (p := ⟨wr.heap.size, 3, none⟩) hz5).trans i3; refine ⟨hp.wt e32, ?_⟩; clear hp; go_simp; rfl
      refine Free.Seq.call (T := Free.eqF (.bool HH)) (fun _ _ _ h _ => h) (fun a w1 hI hp => ?_) ?_
      · have e32 := hp.b 11 6; have e36 := hp.b 15 2; have e38 := hp.b 17 0; refine ⟨hp.wt e32, 73, #[.slice (some ⟨b, off, none⟩) k c2, .agg #[.int .i64 xo, .int .i64 xd, .int .i64 xe, .int .i64 xc]], ?_, ?_⟩
        · clear hp; go_simp
        · refine (HHS.out w1 hI).mono ?_; rintro e w' ⟨rfl, hb⟩; exact ⟨_, rfl, rfl, hb, hI.trans (hb.mono hI.size)⟩
      apply Free.sv; intro a w1 hI hp
      · have e32 := hp.b 11 7; have e39 := hp.b 18 0; refine ⟨Free.wn, ?_⟩; clear hp; go_simp; rfl
      refine Free.Seq.done (by simp) (fun wz hIz => ?_); simp only [List.reverse_cons, List.reverse_nil, List.nil_append, List.cons_append, Free.All, Free.eqF, forall_eq]
      skip
      simp only [Free.putL, Act.put, List.setIfInBounds_toArray, List.set_cons_zero, List.set_cons_succ]
      cases HH
      rotate_left
      · have HR0 := hbad (.inl (by
          unfold okM; rw [decide_eq_false (show ¬ (⟨xo, xd, xe, xc⟩ : Mid) ∉ (hd.take k).map (·.i) from fun h => h (by simpa using HHE.out.symm))]; simp))
        have HBZ := Lib.hid (HBr.out.trans ((HB5.out.trans (hIz.mono (by omega))).mono (by omega))); clear hIz
        dsimp only [Exit.inBlock, Exit.then]
        go_wp2_with fail
        go_ret
        exact ⟨ret_bool (by rw [HR0.out]), HBZ.out⟩
      have hnin : (⟨xo, xd, xe, xc⟩ : Mid) ∉ (hd.take k).map (·.i) := by simpa using HHE.out.symm
      have HBZ := Lib.hid (HB5.out.trans (hIz.mono (by omega))); have i0 := (hIz.cell (p := ⟨wr.heap.size, 0, none⟩) hz5).trans i0; have i1 := (hIz.cell (p := ⟨wr.heap.size, 1, none⟩) hz5).trans i1; have i2 := (hIz.cell (p := ⟨wr.heap.size, 2, none⟩) hz5).trans i2; have i3 := (hIz.cell (p := ⟨wr.heap.size, 3, none⟩) hz5).trans i3; have a0 := (hIz.cell (p := ⟨w.heap.size, 0, none⟩) hzw).trans a0; have G2z := Lib.hid ((hIz.block (w.heap.size + 1) (by omega)).trans G25.out); have G1z := Lib.hid ((hIz.block w.heap.size (by omega)).trans G15.out); have hzz := hIz.size; have hz5 : wr.heap.size < wz.heap.size := by omega
      have hzw : w.heap.size < wz.heap.size := by omega
      have hzw1 : w.heap.size + 1 < wz.heap.size := by omega
      have a1 : wz.cell? ⟨w.heap.size, 1, none⟩ = some (.int .i64 ep) := by rw [cell_of_cells G1z.out]; rfl
      have HQ0 := Lib.hid q0'; have HNI := Lib.hid hnin; have HQ1 := Lib.hid q1; have okp : ¬ (xo = self ∧ ep < xe) → Hid (okM self ep ((hd.take k).map (·.i)) ⟨⟨xo, xd, xe, xc⟩, xl⟩ = true) := fun h => by
        show _ = true
        unfold okM; rw [decide_eq_true HQ0.out, decide_eq_true (show xd ≠ self from HQ1.out), decide_eq_true h, decide_eq_true HNI.out]; rfl
      clear hIz HCM HHS hnin q0 q0' q1 t0 t1 a3 i4
      dsimp only [Exit.inBlock, Exit.then]
      go_wp2_with fail
      by_cases r0 : xo = self
      rotate_left
      · have HR1 := hok (okp (by omega)).out (by simp only [leM, decide_eq_true_eq]; intro h; exact absurd h.1 r0); have t0 : (xo == self) = false := by simpa using r0
        clear hok hbad okp r0; refine Free.wp_seq (I := fun w' => Below wz.heap.size wz w') (Gr := fun w1 w2 => Below w1.heap.size w1 w2) (by kernel_rfl) (by kernel_rfl) (Below.refl _ _).drew ?_
        apply Free.sv; intro a w1 hI hp
        · have e5 := hp.sl 5; simp at e5; refine ⟨Free.wn, ?_⟩; clear hp; go_simp; rfl
        apply Free.sv; intro a w1 hI hp
        · have e41 := hp.b 0 0; refine ⟨Free.wn, ?_⟩; clear hp; go_simp; rfl
        apply Free.sv; intro a w1 hI hp
        · have e42 := hp.b 1 0; have ki0 := (hI.cell (p := ⟨wr.heap.size, 0, none⟩) hz5).trans i0; refine ⟨Free.wn, ?_⟩; clear hp; go_simp; rfl
        apply Free.sv; intro a w1 hI hp
        · have e1 := hp.sl 1; simp at e1; refine ⟨Free.wn, ?_⟩; clear hp; go_simp; rfl
        apply Free.sv; intro a w1 hI hp
        · have e44 := hp.b 3 0; have ka0 := (hI.cell (p := ⟨w.heap.size, 0, none⟩) hzw).trans a0; refine ⟨Free.wn, ?_⟩; clear hp; go_simp; rfl
        apply Free.sv; intro a w1 hI hp
        · have e43 := hp.b 2 2; have e45 := hp.b 4 0; refine ⟨Free.wn, ?_⟩; clear hp; go_simp; rfl
        apply Free.sv; intro a w1 hI hp
        · have e46 := hp.b 5 0; refine ⟨Free.wn, ?_⟩; clear hp; go_simp; rfl
        refine Free.sp 6 0 ?_; refine Free.sp 6 1 ?_; refine Free.sp 6 2 ?_; refine Free.sp 6 3 ?_; refine Free.sp 6 4 ?_; refine Free.sp 6 5 ?_; refine Free.sp 6 6 ?_; refine Free.Seq.pass (fun a w1 hI hp => hp.passU rfl rfl rfl (hp.b 13 0)) ?_; refine Free.Seq.pass (fun a w1 hI hp => hp.passU rfl rfl rfl (hp.b 13 1)) ?_; refine Free.Seq.pass (fun a w1 hI hp => hp.passU rfl rfl rfl (hp.b 13 2)) ?_; refine Free.Seq.pass (fun a w1 hI hp => hp.passU rfl rfl rfl (hp.b 13 3)) ?_; refine Free.Seq.pass (fun a w1 hI hp => hp.passU rfl rfl rfl (hp.b 13 4)) ?_; refine Free.Seq.pass (fun a w1 hI hp => hp.passU rfl rfl rfl (hp.b 13 5)) ?_; refine Free.Seq.pass (fun a w1 hI hp => hp.passU rfl rfl rfl (hp.b 13 6)) ?_; refine Free.Seq.pass (fun a w1 hI hp => hp.passU rfl rfl rfl (hp.b 20 0)) ?_; refine Free.Seq.pass (fun a w1 hI hp => hp.passU rfl rfl rfl (hp.b 20 1)) ?_; refine Free.Seq.pass (fun a w1 hI hp => hp.passU rfl rfl rfl (hp.b 20 2)) ?_; refine Free.Seq.pass (fun a w1 hI hp => hp.passU rfl rfl rfl (hp.b 20 3)) ?_; refine Free.Seq.pass (fun a w1 hI hp => hp.passU rfl rfl rfl (hp.b 20 4)) ?_; refine Free.Seq.pass (fun a w1 hI hp => hp.passU rfl rfl rfl (hp.b 20 5)) ?_; refine Free.Seq.pass (fun a w1 hI hp => hp.passU rfl rfl rfl (hp.b 20 6)) ?_; refine Free.Seq.pass (fun a w1 hI hp => hp.passU rfl rfl rfl (hp.b 20 7)) ?_; refine Free.Seq.pass (fun a w1 hI hp => hp.passU rfl rfl rfl (hp.b 20 8)) ?_; refine Free.Seq.pass (fun a w1 hI hp => hp.passU rfl rfl rfl (hp.b 13 16)) ?_; refine Free.sp 6 24 ?_
        apply Free.sv; intro a w1 hI hp
        · have e47 := hp.b 6 25; have e72 := hp.b 31 0; refine ⟨Free.wn, ?_⟩; clear hp; go_simp; rfl
        refine Free.Seq.done (by simp) (fun wy hIy => ?_); simp only [List.reverse_cons, List.reverse_nil, List.nil_append, List.cons_append, Free.All, Free.eqF, forall_eq]
        skip
        simp only [Free.putL, Act.put, List.setIfInBounds_toArray, List.set_cons_zero, List.set_cons_succ]; have HBY := Lib.hid (HBW.out.trans ((HBZ.out.trans (hIy.mono (by omega))).mono hzr)); clear hIy
        dsimp only [Exit.inBlock, Exit.then]
        go_wp2_with fail
        exact ⟨⟨k + 1, by simp, by omega, HR1.out, HBY.out⟩, by simp only [intOf]; omega⟩
      have t0 : (xo == self) = true := by simpa using r0
      by_cases r1 : ep < xe
      · have HR0 := hbad (.inl (by
          unfold okM; rw [decide_eq_false (show ¬ ¬ (xo = self ∧ ep < xe) from fun h => h ⟨r0, r1⟩)]; simp))
        have t1 : decide (ep < xe) = true := by simpa using r1
        clear hok hbad okp r0; refine Free.wp_seq (I := fun w' => Below wz.heap.size wz w') (Gr := fun w1 w2 => Below w1.heap.size w1 w2) (by kernel_rfl) (by kernel_rfl) (Below.refl _ _).drew ?_
        apply Free.sv; intro a w1 hI hp
        · have e5 := hp.sl 5; simp at e5; refine ⟨Free.wn, ?_⟩; clear hp; go_simp; rfl
        apply Free.sv; intro a w1 hI hp
        · have e41 := hp.b 0 0; refine ⟨Free.wn, ?_⟩; clear hp; go_simp; rfl
        apply Free.sv; intro a w1 hI hp
        · have e42 := hp.b 1 0; have ki0 := (hI.cell (p := ⟨wr.heap.size, 0, none⟩) hz5).trans i0; refine ⟨Free.wn, ?_⟩; clear hp; go_simp; rfl
        apply Free.sv; intro a w1 hI hp
        · have e1 := hp.sl 1; simp at e1; refine ⟨Free.wn, ?_⟩; clear hp; go_simp; rfl
        apply Free.sv; intro a w1 hI hp
        · have e44 := hp.b 3 0; have ka0 := (hI.cell (p := ⟨w.heap.size, 0, none⟩) hzw).trans a0; refine ⟨Free.wn, ?_⟩; clear hp; go_simp; rfl
        apply Free.sv; intro a w1 hI hp
        · have e43 := hp.b 2 2; have e45 := hp.b 4 0; refine ⟨Free.wn, ?_⟩; clear hp; go_simp; rfl
        apply Free.sv; intro a w1 hI hp
        · have e46 := hp.b 5 0; refine ⟨Free.wn, ?_⟩; clear hp; go_simp; rfl
        apply Free.sv; intro a w1 hI hp
        · have e47 := hp.b 6 0; have e5 := hp.sl 5; simp at e5; refine ⟨hp.wt e47, ?_⟩; clear hp; go_simp; rfl
        apply Free.sv; intro a w1 hI hp
        · have e47 := hp.b 6 1; have e48 := hp.b 7 0; refine ⟨hp.wt e47, ?_⟩; clear hp; go_simp; rfl
        apply Free.sv; intro a w1 hI hp
        · have e47 := hp.b 6 2; have e49 := hp.b 8 0; have ki2 := (hI.cell (p := ⟨wr.heap.size, 2, none⟩) hz5).trans i2; refine ⟨hp.wt e47, ?_⟩; clear hp; go_simp; rfl
        apply Free.sv; intro a w1 hI hp
        · have e47 := hp.b 6 3; have e1 := hp.sl 1; simp at e1; refine ⟨hp.wt e47, ?_⟩; clear hp; go_simp; rfl
        apply Free.sv; intro a w1 hI hp
        · have e47 := hp.b 6 4; have e51 := hp.b 10 0; have ka1 := (hI.cell (p := ⟨w.heap.size, 1, none⟩) hzw).trans a1; refine ⟨hp.wt e47, ?_⟩; clear hp; go_simp; rfl
        apply Free.sv; intro a w1 hI hp
        · have e47 := hp.b 6 5; have e50 := hp.b 9 2; have e52 := hp.b 11 0; refine ⟨hp.wt e47, ?_⟩; clear hp; go_simp; rfl
        apply Free.sv; intro a w1 hI hp
        · have e47 := hp.b 6 6; have e53 := hp.b 12 0; refine ⟨hp.wt e47, ?_⟩; clear hp; go_simp; rfl
        refine Free.sp 13 0 ?_; refine Free.sp 13 1 ?_; refine Free.sp 13 2 ?_; refine Free.sp 13 3 ?_; refine Free.sp 13 4 ?_; refine Free.sp 13 5 ?_; refine Free.sp 13 6 ?_; refine Free.Seq.pass (fun a w1 hI hp => hp.passU rfl rfl rfl (hp.b 20 0)) ?_; refine Free.Seq.pass (fun a w1 hI hp => hp.passU rfl rfl rfl (hp.b 20 1)) ?_; refine Free.Seq.pass (fun a w1 hI hp => hp.passU rfl rfl rfl (hp.b 20 2)) ?_; refine Free.Seq.pass (fun a w1 hI hp => hp.passU rfl rfl rfl (hp.b 20 3)) ?_; refine Free.Seq.pass (fun a w1 hI hp => hp.passU rfl rfl rfl (hp.b 20 4)) ?_; refine Free.Seq.pass (fun a w1 hI hp => hp.passU rfl rfl rfl (hp.b 20 5)) ?_; refine Free.Seq.pass (fun a w1 hI hp => hp.passU rfl rfl rfl (hp.b 20 6)) ?_; refine Free.Seq.pass (fun a w1 hI hp => hp.passU rfl rfl rfl (hp.b 20 7)) ?_; refine Free.Seq.pass (fun a w1 hI hp => hp.passU rfl rfl rfl (hp.b 20 8)) ?_; refine Free.sp 13 16 ?_
        apply Free.sv; intro a w1 hI hp
        · have e47 := hp.b 6 24; have e54 := hp.b 13 17; have e71 := hp.b 30 0; refine ⟨hp.wt e47, ?_⟩; clear hp; go_simp; rfl
        apply Free.sv; intro a w1 hI hp
        · have e47 := hp.b 6 25; have e72 := hp.b 31 0; refine ⟨Free.wn, ?_⟩; clear hp; go_simp; rfl
        refine Free.Seq.done (by simp) (fun wy hIy => ?_); simp only [List.reverse_cons, List.reverse_nil, List.nil_append, List.cons_append, Free.All, Free.eqF, forall_eq]
        skip
        simp only [Free.putL, Act.put, List.setIfInBounds_toArray, List.set_cons_zero, List.set_cons_succ]; have HBY := Lib.hid (HBr.out.trans ((HBZ.out.trans (hIy.mono (by omega))).mono (by omega))); clear hIy
        dsimp only [Exit.inBlock, Exit.then]
        go_wp2_with fail
        go_ret
        exact ⟨ret_bool (by rw [HR0.out]), HBY.out⟩
      have t1 : decide (ep < xe) = false := by simpa using r1
      by_cases r2 : xe = ep
      rotate_left
      · have HR1 := hok (okp (by omega)).out (by simp only [leM, decide_eq_true_eq]; intro h; exact absurd h.2 r2); have t2 : (xe == ep) = false := by simpa using r2
        clear hok hbad okp r0; refine Free.wp_seq (I := fun w' => Below wz.heap.size wz w') (Gr := fun w1 w2 => Below w1.heap.size w1 w2) (by kernel_rfl) (by kernel_rfl) (Below.refl _ _).drew ?_
        apply Free.sv; intro a w1 hI hp
        · have e5 := hp.sl 5; simp at e5; refine ⟨Free.wn, ?_⟩; clear hp; go_simp; rfl
        apply Free.sv; intro a w1 hI hp
        · have e41 := hp.b 0 0; refine ⟨Free.wn, ?_⟩; clear hp; go_simp; rfl
        apply Free.sv; intro a w1 hI hp
        · have e42 := hp.b 1 0; have ki0 := (hI.cell (p := ⟨wr.heap.size, 0, none⟩) hz5).trans i0; refine ⟨Free.wn, ?_⟩; clear hp; go_simp; rfl
        apply Free.sv; intro a w1 hI hp
        · have e1 := hp.sl 1; simp at e1; refine ⟨Free.wn, ?_⟩; clear hp; go_simp; rfl
        apply Free.sv; intro a w1 hI hp
        · have e44 := hp.b 3 0; have ka0 := (hI.cell (p := ⟨w.heap.size, 0, none⟩) hzw).trans a0; refine ⟨Free.wn, ?_⟩; clear hp; go_simp; rfl
        apply Free.sv; intro a w1 hI hp
        · have e43 := hp.b 2 2; have e45 := hp.b 4 0; refine ⟨Free.wn, ?_⟩; clear hp; go_simp; rfl
        apply Free.sv; intro a w1 hI hp
        · have e46 := hp.b 5 0; refine ⟨Free.wn, ?_⟩; clear hp; go_simp; rfl
        apply Free.sv; intro a w1 hI hp
        · have e47 := hp.b 6 0; have e5 := hp.sl 5; simp at e5; refine ⟨hp.wt e47, ?_⟩; clear hp; go_simp; rfl
        apply Free.sv; intro a w1 hI hp
        · have e47 := hp.b 6 1; have e48 := hp.b 7 0; refine ⟨hp.wt e47, ?_⟩; clear hp; go_simp; rfl
        apply Free.sv; intro a w1 hI hp
        · have e47 := hp.b 6 2; have e49 := hp.b 8 0; have ki2 := (hI.cell (p := ⟨wr.heap.size, 2, none⟩) hz5).trans i2; refine ⟨hp.wt e47, ?_⟩; clear hp; go_simp; rfl
        apply Free.sv; intro a w1 hI hp
        · have e47 := hp.b 6 3; have e1 := hp.sl 1; simp at e1; refine ⟨hp.wt e47, ?_⟩; clear hp; go_simp; rfl
        apply Free.sv; intro a w1 hI hp
        · have e47 := hp.b 6 4; have e51 := hp.b 10 0; have ka1 := (hI.cell (p := ⟨w.heap.size, 1, none⟩) hzw).trans a1; refine ⟨hp.wt e47, ?_⟩; clear hp; go_simp; rfl
        apply Free.sv; intro a w1 hI hp
        · have e47 := hp.b 6 5; have e50 := hp.b 9 2; have e52 := hp.b 11 0; refine ⟨hp.wt e47, ?_⟩; clear hp; go_simp; rfl
        apply Free.sv; intro a w1 hI hp
        · have e47 := hp.b 6 6; have e53 := hp.b 12 0; refine ⟨hp.wt e47, ?_⟩; clear hp; go_simp; rfl
        apply Free.sv; intro a w1 hI hp
        · have e54 := hp.b 13 0; have e5 := hp.sl 5; simp at e5; refine ⟨hp.wt e54, ?_⟩; clear hp; go_simp; rfl
        apply Free.sv; intro a w1 hI hp
        · have e54 := hp.b 13 1; have e55 := hp.b 14 0; refine ⟨hp.wt e54, ?_⟩; clear hp; go_simp; rfl
        apply Free.sv; intro a w1 hI hp
        · have e54 := hp.b 13 2; have e56 := hp.b 15 0; have ki2 := (hI.cell (p := ⟨wr.heap.size, 2, none⟩) hz5).trans i2; refine ⟨hp.wt e54, ?_⟩; clear hp; go_simp; rfl
        apply Free.sv; intro a w1 hI hp
        · have e54 := hp.b 13 3; have e1 := hp.sl 1; simp at e1; refine ⟨hp.wt e54, ?_⟩; clear hp; go_simp; rfl
        apply Free.sv; intro a w1 hI hp
        · have e54 := hp.b 13 4; have e58 := hp.b 17 0; have ka1 := (hI.cell (p := ⟨w.heap.size, 1, none⟩) hzw).trans a1; refine ⟨hp.wt e54, ?_⟩; clear hp; go_simp; rfl
        apply Free.sv; intro a w1 hI hp
        · have e54 := hp.b 13 5; have e57 := hp.b 16 2; have e59 := hp.b 18 0; refine ⟨hp.wt e54, ?_⟩; clear hp; go_simp; rfl
        apply Free.sv; intro a w1 hI hp
        · have e54 := hp.b 13 6; have e60 := hp.b 19 0; refine ⟨hp.wt e54, ?_⟩; clear hp; go_simp; rfl
        refine Free.sp 20 0 ?_; refine Free.sp 20 1 ?_; refine Free.sp 20 2 ?_; refine Free.sp 20 3 ?_; refine Free.sp 20 4 ?_; refine Free.sp 20 5 ?_; refine Free.sp 20 6 ?_; refine Free.sp 20 7 ?_; refine Free.sp 20 8 ?_
        apply Free.sv; intro a w1 hI hp
        · have e54 := hp.b 13 16; have e61 := hp.b 20 9; have e70 := hp.b 29 0; refine ⟨hp.wt e54, ?_⟩; clear hp; go_simp; rfl
        apply Free.sv; intro a w1 hI hp
        · have e47 := hp.b 6 24; have e54 := hp.b 13 17; have e71 := hp.b 30 0; refine ⟨hp.wt e47, ?_⟩; clear hp; go_simp; rfl
        apply Free.sv; intro a w1 hI hp
        · have e47 := hp.b 6 25; have e72 := hp.b 31 0; refine ⟨Free.wn, ?_⟩; clear hp; go_simp; rfl
        refine Free.Seq.done (by simp) (fun wy hIy => ?_); simp only [List.reverse_cons, List.reverse_nil, List.nil_append, List.cons_append, Free.All, Free.eqF, forall_eq]
        skip
        simp only [Free.putL, Act.put, List.setIfInBounds_toArray, List.set_cons_zero, List.set_cons_succ]; have HBY := Lib.hid (HBW.out.trans ((HBZ.out.trans (hIy.mono (by omega))).mono hzr)); clear hIy
        dsimp only [Exit.inBlock, Exit.then]
        go_wp2_with fail
        exact ⟨⟨k + 1, by simp, by omega, HR1.out, HBY.out⟩, by simp only [intOf]; omega⟩
      have t2 : (xe == ep) = true := by simpa using r2
      have HLS : Hid (∀ W', Below wz.heap.size wz W' → Calls Try.prog 74 #[.agg #[.int .i64 0, .int .i64 0, .int .i64 0, .int .i64 0, .int .i64 0, .slice A1 n1 c1, .slice none 0 0, .int .i64 0, .slice none 0 0], .int .i64 xd] W' fun e w' => e = .returned (.int .i64 (lastOf nx xd)) ∧ Below W'.heap.size W' w') := fun W' h => rlast_any nx A1 n1 c1 B (.slice none 0 0) xd W' (HX.out.below keeps_nx (HBr.out.trans ((HBZ.out.trans (h.mono (by omega))).mono (by omega))))
      obtain ⟨LL, hLL⟩ : ∃ z, z = lastOf nx xd := ⟨_, rfl⟩; rw [← hLL] at HLS; have HLE := Lib.hid hLL; clear hLL; have hleM : leM self ep nx ⟨⟨xo, xd, xe, xc⟩, xl⟩ = decide (xc ≤ LL) := by
        simp only [leM, HLE.out]; rw [Bool.eq_iff_iff]; simp [r0, r2]
      by_cases r3 : LL < xc
      · have HR0 := hbad (.inr (by rw [hleM]; simp; omega)); have t3 : decide (LL < xc) = true := by simpa using r3
        clear hok hbad okp r0 r2 hleM; refine Free.wp_seq (I := fun w' => Below wz.heap.size wz w') (Gr := fun w1 w2 => Below w1.heap.size w1 w2) (by kernel_rfl) (by kernel_rfl) (Below.refl _ _).drew ?_
        apply Free.sv; intro a w1 hI hp
        · have e5 := hp.sl 5; simp at e5; refine ⟨Free.wn, ?_⟩; clear hp; go_simp; rfl
        apply Free.sv; intro a w1 hI hp
        · have e41 := hp.b 0 0; refine ⟨Free.wn, ?_⟩; clear hp; go_simp; rfl
        apply Free.sv; intro a w1 hI hp
        · have e42 := hp.b 1 0; have ki0 := (hI.cell (p := ⟨wr.heap.size, 0, none⟩) hz5).trans i0; refine ⟨Free.wn, ?_⟩; clear hp; go_simp; rfl
        apply Free.sv; intro a w1 hI hp
        · have e1 := hp.sl 1; simp at e1; refine ⟨Free.wn, ?_⟩; clear hp; go_simp; rfl
        apply Free.sv; intro a w1 hI hp
        · have e44 := hp.b 3 0; have ka0 := (hI.cell (p := ⟨w.heap.size, 0, none⟩) hzw).trans a0; refine ⟨Free.wn, ?_⟩; clear hp; go_simp; rfl
        apply Free.sv; intro a w1 hI hp
        · have e43 := hp.b 2 2; have e45 := hp.b 4 0; refine ⟨Free.wn, ?_⟩; clear hp; go_simp; rfl
        apply Free.sv; intro a w1 hI hp
        · have e46 := hp.b 5 0; refine ⟨Free.wn, ?_⟩; clear hp; go_simp; rfl
        apply Free.sv; intro a w1 hI hp
        · have e47 := hp.b 6 0; have e5 := hp.sl 5; simp at e5; refine ⟨hp.wt e47, ?_⟩; clear hp; go_simp; rfl
        apply Free.sv; intro a w1 hI hp
        · have e47 := hp.b 6 1; have e48 := hp.b 7 0; refine ⟨hp.wt e47, ?_⟩; clear hp; go_simp; rfl
        apply Free.sv; intro a w1 hI hp
        · have e47 := hp.b 6 2; have e49 := hp.b 8 0; have ki2 := (hI.cell (p := ⟨wr.heap.size, 2, none⟩) hz5).trans i2; refine ⟨hp.wt e47, ?_⟩; clear hp; go_simp; rfl
        apply Free.sv; intro a w1 hI hp
        · have e47 := hp.b 6 3; have e1 := hp.sl 1; simp at e1; refine ⟨hp.wt e47, ?_⟩; clear hp; go_simp; rfl
        apply Free.sv; intro a w1 hI hp
        · have e47 := hp.b 6 4; have e51 := hp.b 10 0; have ka1 := (hI.cell (p := ⟨w.heap.size, 1, none⟩) hzw).trans a1; refine ⟨hp.wt e47, ?_⟩; clear hp; go_simp; rfl
        apply Free.sv; intro a w1 hI hp
        · have e47 := hp.b 6 5; have e50 := hp.b 9 2; have e52 := hp.b 11 0; refine ⟨hp.wt e47, ?_⟩; clear hp; go_simp; rfl
        apply Free.sv; intro a w1 hI hp
        · have e47 := hp.b 6 6; have e53 := hp.b 12 0; refine ⟨hp.wt e47, ?_⟩; clear hp; go_simp; rfl
        apply Free.sv; intro a w1 hI hp
        · have e54 := hp.b 13 0; have e5 := hp.sl 5; simp at e5; refine ⟨hp.wt e54, ?_⟩; clear hp; go_simp; rfl
        apply Free.sv; intro a w1 hI hp
        · have e54 := hp.b 13 1; have e55 := hp.b 14 0; refine ⟨hp.wt e54, ?_⟩; clear hp; go_simp; rfl
        apply Free.sv; intro a w1 hI hp
        · have e54 := hp.b 13 2; have e56 := hp.b 15 0; have ki2 := (hI.cell (p := ⟨wr.heap.size, 2, none⟩) hz5).trans i2; refine ⟨hp.wt e54, ?_⟩; clear hp; go_simp; rfl
        apply Free.sv; intro a w1 hI hp
        · have e54 := hp.b 13 3; have e1 := hp.sl 1; simp at e1; refine ⟨hp.wt e54, ?_⟩; clear hp; go_simp; rfl
        apply Free.sv; intro a w1 hI hp
        · have e54 := hp.b 13 4; have e58 := hp.b 17 0; have ka1 := (hI.cell (p := ⟨w.heap.size, 1, none⟩) hzw).trans a1; refine ⟨hp.wt e54, ?_⟩; clear hp; go_simp; rfl
        apply Free.sv; intro a w1 hI hp
        · have e54 := hp.b 13 5; have e57 := hp.b 16 2; have e59 := hp.b 18 0; refine ⟨hp.wt e54, ?_⟩; clear hp; go_simp; rfl
        apply Free.sv; intro a w1 hI hp
        · have e54 := hp.b 13 6; have e60 := hp.b 19 0; refine ⟨hp.wt e54, ?_⟩; clear hp; go_simp; rfl
        apply Free.sv; intro a w1 hI hp
        · have e61 := hp.b 20 0; have e5 := hp.sl 5; simp at e5; refine ⟨hp.wt e61, ?_⟩; clear hp; go_simp; rfl
        apply Free.sv; intro a w1 hI hp
        · have e61 := hp.b 20 1; have e62 := hp.b 21 0; refine ⟨hp.wt e61, ?_⟩; clear hp; go_simp; rfl
        apply Free.sv; intro a w1 hI hp
        · have e61 := hp.b 20 2; have e63 := hp.b 22 0; have ki3 := (hI.cell (p := ⟨wr.heap.size, 3, none⟩) hz5).trans i3; refine ⟨hp.wt e61, ?_⟩; clear hp; go_simp; rfl
        apply Free.sv; intro a w1 hI hp
        · have e61 := hp.b 20 3; have e3 := hp.sl 3; simp at e3; have e09 : w1.cell? ⟨w.heap.size + 1, 0, none⟩ = _ := (hI.cell (p := ⟨w.heap.size + 1, 0, none⟩) hzw1).trans (cell_of_cells G2z.out 0); have e19 : w1.cell? ⟨w.heap.size + 1, 1, none⟩ = _ := (hI.cell (p := ⟨w.heap.size + 1, 1, none⟩) hzw1).trans (cell_of_cells G2z.out 1); have e29 : w1.cell? ⟨w.heap.size + 1, 2, none⟩ = _ := (hI.cell (p := ⟨w.heap.size + 1, 2, none⟩) hzw1).trans (cell_of_cells G2z.out 2); have e39 : w1.cell? ⟨w.heap.size + 1, 3, none⟩ = _ := (hI.cell (p := ⟨w.heap.size + 1, 3, none⟩) hzw1).trans (cell_of_cells G2z.out 3); have e49 : w1.cell? ⟨w.heap.size + 1, 4, none⟩ = _ := (hI.cell (p := ⟨w.heap.size + 1, 4, none⟩) hzw1).trans (cell_of_cells G2z.out 4); have e59 : w1.cell? ⟨w.heap.size + 1, 5, none⟩ = _ := (hI.cell (p := ⟨w.heap.size + 1, 5, none⟩) hzw1).trans (cell_of_cells G2z.out 5); have e69 : w1.cell? ⟨w.heap.size + 1, 6, none⟩ = _ := (hI.cell (p := ⟨w.heap.size + 1, 6, none⟩) hzw1).trans (cell_of_cells G2z.out 6); have e79 : w1.cell? ⟨w.heap.size + 1, 7, none⟩ = _ := (hI.cell (p := ⟨w.heap.size + 1, 7, none⟩) hzw1).trans (cell_of_cells G2z.out 7); have e89 : w1.cell? ⟨w.heap.size + 1, 8, none⟩ = _ := (hI.cell (p := ⟨w.heap.size + 1, 8, none⟩) hzw1).trans (cell_of_cells G2z.out 8); simp at e09 e19 e29 e39 e49 e59 e69 e79 e89; refine ⟨hp.wt e61, ?_⟩; clear hp; go_simp; rfl
        apply Free.sv; intro a w1 hI hp
        · have e61 := hp.b 20 4; have e5 := hp.sl 5; simp at e5; refine ⟨hp.wt e61, ?_⟩; clear hp; go_simp; rfl
        apply Free.sv; intro a w1 hI hp
        · have e61 := hp.b 20 5; have e66 := hp.b 25 0; refine ⟨hp.wt e61, ?_⟩; clear hp; go_simp; rfl
        apply Free.sv; intro a w1 hI hp
        · have e61 := hp.b 20 6; have e67 := hp.b 26 0; have ki1 := (hI.cell (p := ⟨wr.heap.size, 1, none⟩) hz5).trans i1; refine ⟨hp.wt e61, ?_⟩; clear hp; go_simp; rfl
        refine Free.Seq.call (T := Free.eqF (.int .i64 LL)) (fun _ _ _ h _ => h) (fun a w1 hI hp => ?_) ?_
        · have e61 := hp.b 20 7; have e65 := hp.b 24 3; have e68 := hp.b 27 0; refine ⟨hp.wt e61, 74, #[.agg #[.int .i64 0, .int .i64 0, .int .i64 0, .int .i64 0, .int .i64 0, .slice A1 n1 c1, .slice none 0 0, .int .i64 0, .slice none 0 0], .int .i64 xd], ?_, ?_⟩
          · clear hp; go_simp
          · refine (HLS.out w1 hI).mono ?_; rintro e w' ⟨rfl, hb⟩; exact ⟨_, rfl, rfl, hb, hI.trans (hb.mono hI.size)⟩
        apply Free.sv; intro a w1 hI hp
        · have e61 := hp.b 20 8; have e64 := hp.b 23 5; have e69 := hp.b 28 0; refine ⟨hp.wt e61, ?_⟩; clear hp; go_simp; rfl
        apply Free.sv; intro a w1 hI hp
        · have e54 := hp.b 13 16; have e61 := hp.b 20 9; have e70 := hp.b 29 0; refine ⟨hp.wt e54, ?_⟩; clear hp; go_simp; rfl
        apply Free.sv; intro a w1 hI hp
        · have e47 := hp.b 6 24; have e54 := hp.b 13 17; have e71 := hp.b 30 0; refine ⟨hp.wt e47, ?_⟩; clear hp; go_simp; rfl
        apply Free.sv; intro a w1 hI hp
        · have e47 := hp.b 6 25; have e72 := hp.b 31 0; refine ⟨Free.wn, ?_⟩; clear hp; go_simp; rfl
        refine Free.Seq.done (by simp) (fun wy hIy => ?_); simp only [List.reverse_cons, List.reverse_nil, List.nil_append, List.cons_append, Free.All, Free.eqF, forall_eq]
        skip
        simp only [Free.putL, Act.put, List.setIfInBounds_toArray, List.set_cons_zero, List.set_cons_succ]; have HBY := Lib.hid (HBr.out.trans ((HBZ.out.trans (hIy.mono (by omega))).mono (by omega))); clear hIy
        dsimp only [Exit.inBlock, Exit.then]
        go_wp2_with fail
        go_ret
        exact ⟨ret_bool (by rw [HR0.out]), HBY.out⟩
      · have HR1 := hok (okp (by omega)).out (by rw [hleM]; simp; omega); have t3 : decide (LL < xc) = false := by simpa using r3
        clear hok hbad okp r0 r2 hleM; refine Free.wp_seq (I := fun w' => Below wz.heap.size wz w') (Gr := fun w1 w2 => Below w1.heap.size w1 w2) (by kernel_rfl) (by kernel_rfl) (Below.refl _ _).drew ?_
        apply Free.sv; intro a w1 hI hp
        · have e5 := hp.sl 5; simp at e5; refine ⟨Free.wn, ?_⟩; clear hp; go_simp; rfl
        apply Free.sv; intro a w1 hI hp
        · have e41 := hp.b 0 0; refine ⟨Free.wn, ?_⟩; clear hp; go_simp; rfl
        apply Free.sv; intro a w1 hI hp
        · have e42 := hp.b 1 0; have ki0 := (hI.cell (p := ⟨wr.heap.size, 0, none⟩) hz5).trans i0; refine ⟨Free.wn, ?_⟩; clear hp; go_simp; rfl
        apply Free.sv; intro a w1 hI hp
        · have e1 := hp.sl 1; simp at e1; refine ⟨Free.wn, ?_⟩; clear hp; go_simp; rfl
        apply Free.sv; intro a w1 hI hp
        · have e44 := hp.b 3 0; have ka0 := (hI.cell (p := ⟨w.heap.size, 0, none⟩) hzw).trans a0; refine ⟨Free.wn, ?_⟩; clear hp; go_simp; rfl
        apply Free.sv; intro a w1 hI hp
        · have e43 := hp.b 2 2; have e45 := hp.b 4 0; refine ⟨Free.wn, ?_⟩; clear hp; go_simp; rfl
        apply Free.sv; intro a w1 hI hp
        · have e46 := hp.b 5 0; refine ⟨Free.wn, ?_⟩; clear hp; go_simp; rfl
        apply Free.sv; intro a w1 hI hp
        · have e47 := hp.b 6 0; have e5 := hp.sl 5; simp at e5; refine ⟨hp.wt e47, ?_⟩; clear hp; go_simp; rfl
        apply Free.sv; intro a w1 hI hp
        · have e47 := hp.b 6 1; have e48 := hp.b 7 0; refine ⟨hp.wt e47, ?_⟩; clear hp; go_simp; rfl
        apply Free.sv; intro a w1 hI hp
        · have e47 := hp.b 6 2; have e49 := hp.b 8 0; have ki2 := (hI.cell (p := ⟨wr.heap.size, 2, none⟩) hz5).trans i2; refine ⟨hp.wt e47, ?_⟩; clear hp; go_simp; rfl
        apply Free.sv; intro a w1 hI hp
        · have e47 := hp.b 6 3; have e1 := hp.sl 1; simp at e1; refine ⟨hp.wt e47, ?_⟩; clear hp; go_simp; rfl
        apply Free.sv; intro a w1 hI hp
        · have e47 := hp.b 6 4; have e51 := hp.b 10 0; have ka1 := (hI.cell (p := ⟨w.heap.size, 1, none⟩) hzw).trans a1; refine ⟨hp.wt e47, ?_⟩; clear hp; go_simp; rfl
        apply Free.sv; intro a w1 hI hp
        · have e47 := hp.b 6 5; have e50 := hp.b 9 2; have e52 := hp.b 11 0; refine ⟨hp.wt e47, ?_⟩; clear hp; go_simp; rfl
        apply Free.sv; intro a w1 hI hp
        · have e47 := hp.b 6 6; have e53 := hp.b 12 0; refine ⟨hp.wt e47, ?_⟩; clear hp; go_simp; rfl
        apply Free.sv; intro a w1 hI hp
        · have e54 := hp.b 13 0; have e5 := hp.sl 5; simp at e5; refine ⟨hp.wt e54, ?_⟩; clear hp; go_simp; rfl
        apply Free.sv; intro a w1 hI hp
        · have e54 := hp.b 13 1; have e55 := hp.b 14 0; refine ⟨hp.wt e54, ?_⟩; clear hp; go_simp; rfl
        apply Free.sv; intro a w1 hI hp
        · have e54 := hp.b 13 2; have e56 := hp.b 15 0; have ki2 := (hI.cell (p := ⟨wr.heap.size, 2, none⟩) hz5).trans i2; refine ⟨hp.wt e54, ?_⟩; clear hp; go_simp; rfl
        apply Free.sv; intro a w1 hI hp
        · have e54 := hp.b 13 3; have e1 := hp.sl 1; simp at e1; refine ⟨hp.wt e54, ?_⟩; clear hp; go_simp; rfl
        apply Free.sv; intro a w1 hI hp
        · have e54 := hp.b 13 4; have e58 := hp.b 17 0; have ka1 := (hI.cell (p := ⟨w.heap.size, 1, none⟩) hzw).trans a1; refine ⟨hp.wt e54, ?_⟩; clear hp; go_simp; rfl
        apply Free.sv; intro a w1 hI hp
        · have e54 := hp.b 13 5; have e57 := hp.b 16 2; have e59 := hp.b 18 0; refine ⟨hp.wt e54, ?_⟩; clear hp; go_simp; rfl
        apply Free.sv; intro a w1 hI hp
        · have e54 := hp.b 13 6; have e60 := hp.b 19 0; refine ⟨hp.wt e54, ?_⟩; clear hp; go_simp; rfl
        apply Free.sv; intro a w1 hI hp
        · have e61 := hp.b 20 0; have e5 := hp.sl 5; simp at e5; refine ⟨hp.wt e61, ?_⟩; clear hp; go_simp; rfl
        apply Free.sv; intro a w1 hI hp
        · have e61 := hp.b 20 1; have e62 := hp.b 21 0; refine ⟨hp.wt e61, ?_⟩; clear hp; go_simp; rfl
        apply Free.sv; intro a w1 hI hp
        · have e61 := hp.b 20 2; have e63 := hp.b 22 0; have ki3 := (hI.cell (p := ⟨wr.heap.size, 3, none⟩) hz5).trans i3; refine ⟨hp.wt e61, ?_⟩; clear hp; go_simp; rfl
        apply Free.sv; intro a w1 hI hp
        · have e61 := hp.b 20 3; have e3 := hp.sl 3; simp at e3; have e09 : w1.cell? ⟨w.heap.size + 1, 0, none⟩ = _ := (hI.cell (p := ⟨w.heap.size + 1, 0, none⟩) hzw1).trans (cell_of_cells G2z.out 0); have e19 : w1.cell? ⟨w.heap.size + 1, 1, none⟩ = _ := (hI.cell (p := ⟨w.heap.size + 1, 1, none⟩) hzw1).trans (cell_of_cells G2z.out 1); have e29 : w1.cell? ⟨w.heap.size + 1, 2, none⟩ = _ := (hI.cell (p := ⟨w.heap.size + 1, 2, none⟩) hzw1).trans (cell_of_cells G2z.out 2); have e39 : w1.cell? ⟨w.heap.size + 1, 3, none⟩ = _ := (hI.cell (p := ⟨w.heap.size + 1, 3, none⟩) hzw1).trans (cell_of_cells G2z.out 3); have e49 : w1.cell? ⟨w.heap.size + 1, 4, none⟩ = _ := (hI.cell (p := ⟨w.heap.size + 1, 4, none⟩) hzw1).trans (cell_of_cells G2z.out 4); have e59 : w1.cell? ⟨w.heap.size + 1, 5, none⟩ = _ := (hI.cell (p := ⟨w.heap.size + 1, 5, none⟩) hzw1).trans (cell_of_cells G2z.out 5); have e69 : w1.cell? ⟨w.heap.size + 1, 6, none⟩ = _ := (hI.cell (p := ⟨w.heap.size + 1, 6, none⟩) hzw1).trans (cell_of_cells G2z.out 6); have e79 : w1.cell? ⟨w.heap.size + 1, 7, none⟩ = _ := (hI.cell (p := ⟨w.heap.size + 1, 7, none⟩) hzw1).trans (cell_of_cells G2z.out 7); have e89 : w1.cell? ⟨w.heap.size + 1, 8, none⟩ = _ := (hI.cell (p := ⟨w.heap.size + 1, 8, none⟩) hzw1).trans (cell_of_cells G2z.out 8); simp at e09 e19 e29 e39 e49 e59 e69 e79 e89; refine ⟨hp.wt e61, ?_⟩; clear hp; go_simp; rfl
        apply Free.sv; intro a w1 hI hp
        · have e61 := hp.b 20 4; have e5 := hp.sl 5; simp at e5; refine ⟨hp.wt e61, ?_⟩; clear hp; go_simp; rfl
        apply Free.sv; intro a w1 hI hp
        · have e61 := hp.b 20 5; have e66 := hp.b 25 0; refine ⟨hp.wt e61, ?_⟩; clear hp; go_simp; rfl
        apply Free.sv; intro a w1 hI hp
        · have e61 := hp.b 20 6; have e67 := hp.b 26 0; have ki1 := (hI.cell (p := ⟨wr.heap.size, 1, none⟩) hz5).trans i1; refine ⟨hp.wt e61, ?_⟩; clear hp; go_simp; rfl
        refine Free.Seq.call (T := Free.eqF (.int .i64 LL)) (fun _ _ _ h _ => h) (fun a w1 hI hp => ?_) ?_
        · have e61 := hp.b 20 7; have e65 := hp.b 24 3; have e68 := hp.b 27 0; refine ⟨hp.wt e61, 74, #[.agg #[.int .i64 0, .int .i64 0, .int .i64 0, .int .i64 0, .int .i64 0, .slice A1 n1 c1, .slice none 0 0, .int .i64 0, .slice none 0 0], .int .i64 xd], ?_, ?_⟩
          · clear hp; go_simp
          · refine (HLS.out w1 hI).mono ?_; rintro e w' ⟨rfl, hb⟩; exact ⟨_, rfl, rfl, hb, hI.trans (hb.mono hI.size)⟩
        apply Free.sv; intro a w1 hI hp
        · have e61 := hp.b 20 8; have e64 := hp.b 23 5; have e69 := hp.b 28 0; refine ⟨hp.wt e61, ?_⟩; clear hp; go_simp; rfl
        apply Free.sv; intro a w1 hI hp
        · have e54 := hp.b 13 16; have e61 := hp.b 20 9; have e70 := hp.b 29 0; refine ⟨hp.wt e54, ?_⟩; clear hp; go_simp; rfl
        apply Free.sv; intro a w1 hI hp
        · have e47 := hp.b 6 24; have e54 := hp.b 13 17; have e71 := hp.b 30 0; refine ⟨hp.wt e47, ?_⟩; clear hp; go_simp; rfl
        apply Free.sv; intro a w1 hI hp
        · have e47 := hp.b 6 25; have e72 := hp.b 31 0; refine ⟨Free.wn, ?_⟩; clear hp; go_simp; rfl
        refine Free.Seq.done (by simp) (fun wy hIy => ?_); simp only [List.reverse_cons, List.reverse_nil, List.nil_append, List.cons_append, Free.All, Free.eqF, forall_eq]
        skip
        simp only [Free.putL, Act.put, List.setIfInBounds_toArray, List.set_cons_zero, List.set_cons_succ]; have HBY := Lib.hid (HBW.out.trans ((HBZ.out.trans (hIy.mono (by omega))).mono hzr)); clear hIy
        dsimp only [Exit.inBlock, Exit.then]
        go_wp2_with fail
        exact ⟨⟨k + 1, by simp, by omega, HR1.out, HBY.out⟩, by simp only [intOf]; omega⟩
    · have hkn : k = n2 := by omega
      subst hkn; have HR1 : Hid (R = true) := by show R = true; rw [HQ.out, List.drop_of_length_le (by rw [HL.out]; exact Nat.le_refl _)]; rfl
      go_wp2_with fail
      go_ret
      exact ⟨ret_bool (by rw [HR1.out]), HBr.out⟩
end Go.Proofs.Ytcnlgcmooegfkaa
namespace Go.Proofs.Ytcnlgcmooegfkaa
open Go.RowKit Mg Sn

theorem selfB_drop {self : Int} {l : List Mk} {k : Nat} {m : Mk} (h : l[k]? = some m) : (l.drop k).all (fun m => decide (m.o ≠ self)) = (decide (m.o ≠ self) && (l.drop (k + 1)).all (fun m => decide (m.o ≠ self))) := by
  obtain ⟨hk, rfl⟩ := List.getElem?_eq_some_iff.1 h; rw [List.drop_eq_getElem_cons hk, List.all_cons]
theorem hold_48 {s : St} (h : holdB s = true) : ∀ m ∈ s.hd, m.l.length ≤ 48 := fun m hm => by
  simp only [holdB, Bool.and_eq_true] at h; exact (chkM_in (appB_in h.1 m hm)).2.2.2

set_option maxRecDepth 100000 in
set_option maxHeartbeats 8000000 in
theorem rcheckstate_any (s : St) (v : Sv) (B : Nat) (w : World) (hR : RdS w B v s) : Calls Try.prog 29 #[.agg #[.int .i64 256, .int .i64 1048576, .int .i64 256], stv s v] w fun e w' => e = .returned (.int .i64 (fromC s)) ∧ Below w.heap.size w w' := by
  obtain ⟨R, hRR⟩ : ∃ R, R = fromC s := ⟨_, rfl⟩; rw [← hRR]; have HRR := Lib.hid hRR; have HNX := Lib.hid (fun W (h : Below w.heap.size w W) => rnexts_any s v B W (hR.below h)); have HHO := Lib.hid (fun W (h : Below w.heap.size w W) => rholds_any s v B W (hR.below h)); have HCM := Lib.hid (fun W (h : Below w.heap.size w W) => rcheckmarks_any s.sn v.A3 v.n3 v.c3 B W ((hR.below h).sn)); have HBY := Lib.hid (fun (h48 : ∀ m ∈ s.hd, m.l.length ≤ 48) W (h : Below w.heap.size w W) => rbytes_any s.hd v.A2 v.n2 v.c2 B (.slice none 0 0) W ((hR.below h).hd) h48); have HRS := Lib.hid hR.sn; have HLS := Lib.hid hR.sn.len; have HLH := Lib.hid hR.hd.len; have HNW := Lib.hid (fun W => rnew_any s.self W); have hbig := hR.sn.big; clear hR hRR; obtain ⟨NX, hNX⟩ : ∃ x, x = nextOk s := ⟨_, rfl⟩; obtain ⟨HO, hHO⟩ : ∃ x, x = holdB s := ⟨_, rfl⟩; obtain ⟨F, hF⟩ : ∃ x, x = fromE s.sn := ⟨_, rfl⟩; rw [← hNX] at HNX; rw [← hHO] at HHO; rw [← hF] at HCM; have HNE := Lib.hid hNX; have HHE := Lib.hid hHO; have HFE := Lib.hid hF; clear hNX hHO hF; obtain ⟨A1, n1, c1, A2, n2, c2, A3, n3, c3⟩ := v; obtain ⟨self, ep, nx, hd, sn⟩ := s; unfold stv at HNX HHO ⊢; unfold rst at HBY; simp only at HNX HHO HCM HBY HRS HLS HLH HNW hbig ⊢
  by_cases hs : 0 ≤ self ∧ self ≤ 63
  rotate_left
  · have HR0 : Hid (R = 1) := by show R = 1; rw [HRR.out, fromC, if_pos hs]
    rw [if_neg hs] at HNW; unfold rnewV rst at HNW; rw [if_neg hs] at HNW; clear hs HNX HHO HCM HBY HRS HLS HLH
    go_enter Try.func29, Try.ntmps29
    go_wp2_with fail
    refine (HNW.out _).mono ?_; rintro e1 w1 ⟨rfl, hb1⟩; have HB1 := Lib.hid ((((Below.refl w.heap.size w).alloc (Nat.le_refl _) _).alloc (by simp) _).trans (hb1.mono (by simp; omega))); have hz1 := hb1.size; simp at hz1; clear hb1 HNW
    go_wp2_with fail
    go_ret
    exact ⟨ret_int (by rw [HR0.out]), HB1.out.alloc (by omega) _⟩
  have HS := Lib.hid hs; have H0 : Hid (selfB ⟨self, ep, nx, hd, sn⟩ = (sn.drop 0).all (fun m => decide (m.o ≠ self))) := by show selfB _ = _; rw [List.drop_zero]; rfl
  rw [if_pos hs] at HNW; unfold rnewV at HNW; rw [if_pos hs] at HNW; clear hs
  go_enter Try.func29, Try.ntmps29
  go_wp2_with fail
  obtain ⟨W, hW⟩ : ∃ W, W = (w.alloc (.cells #[.int .i64 256, .int .i64 1048576, .int .i64 256] 68)).alloc (.cells #[.int .i64 self, .int .i64 ep, .slice A1 n1 c1, .slice A2 n2 c2, .slice A3 n3 c3] 26) := ⟨_, rfl⟩; rw [← hW]; have hz : w.heap.size + 1 < W.heap.size := by rw [hW]; simp
  have g1 : W.heap[w.heap.size]? = some (.cells #[.int .i64 256, .int .i64 1048576, .int .i64 256] 68 (0, 0)) := by rw [hW]; exact (Below.heap_alloc _ _ _ (by simp)).trans (heap_alloc_new w _)
  have g2 : W.heap[w.heap.size + 1]? = some (.cells #[.int .i64 self, .int .i64 ep, .slice A1 n1 c1, .slice A2 n2 c2, .slice A3 n3 c3] 26 (0, 0)) := by
    rw [hW]; have := heap_alloc_new (w.alloc (.cells #[.int .i64 256, .int .i64 1048576, .int .i64 256] 68)) (.cells #[.int .i64 self, .int .i64 ep, .slice A1 n1 c1, .slice A2 n2 c2, .slice A3 n3 c3] 26)
    rwa [World.size_alloc] at this
  have hB0 : Below w.heap.size w W := by rw [hW]; exact ((Below.refl _ _).alloc (Nat.le_refl _) _).alloc (by simp) _
  refine (HNW.out W).mono ?_; rintro e1 w1 ⟨rfl, hb1⟩; have hz1 := hb1.size; have HB1 := Lib.hid (hB0.trans (hb1.mono (by omega))); have G1 := Lib.hid ((hb1.block w.heap.size (by omega)).trans g1); have G2 := Lib.hid ((hb1.block (w.heap.size + 1) (by omega)).trans g2); clear hW g1 g2 hB0 hb1 HNW
  go_wp2_with fail
  go_loopw [7] (fun i wr => ∃ k : Nat, i = .int .i64 k ∧ k ≤ n3 ∧ Hid (selfB ⟨self, ep, nx, hd, sn⟩ = (sn.drop k).all (fun m => decide (m.o ≠ self)) ∧ Below w1.heap.size w1 wr)) (fun i _ => n3 - (intOf i).toNat)
  case atStart => exact ⟨0, rfl, Nat.zero_le _, H0.out, (Below.refl _ _).alloc (Nat.le_refl _) _⟩
  case round =>
    obtain ⟨k, rfl, hk, hq, hb⟩ := hrel; have HQ := Lib.hid hq; have HBW := Lib.hid hb; have hzr := hb.size; have HBr := Lib.hid (HB1.out.trans (hb.mono (by omega))); have G1 := Lib.hid ((hb.block w.heap.size (by omega)).trans G1.out); have G2 := Lib.hid ((hb.block (w.heap.size + 1) (by omega)).trans G2.out); have a0 : wr.cell? ⟨w.heap.size + 1, 0, none⟩ = some (.int .i64 self) := by rw [cell_of_cells G2.out]; rfl
    have a4 : wr.cell? ⟨w.heap.size + 1, 4, none⟩ = some (.slice A3 n3 c3) := by rw [cell_of_cells G2.out]; rfl
    have hw1 : w.heap.size + 1 < wr.heap.size := by omega
    clear hq hb
    by_cases hlt : k < n3
    · obtain ⟨b, off, x, cs, rfl, hBb, hbl, hx, hcs, hlen, hcell⟩ := (HRS.out.below keeps_mk HBr.out).at' hlt; obtain ⟨Ax, cx, rfl, _⟩ := hcs; have c0 := hcell 0 _ rfl; rw [Nat.add_zero] at c0; rw [selfB_drop hx] at HQ; obtain ⟨xo, xe, xu, xm⟩ := x; simp only at c0 HQ; have hkb : k < 281474976710656 := by omega
      clear hcell hlen hx
      go_wp2_with fail
      by_cases q0 : xo = self
      · have HR0 : Hid (R = 2) := by
          show R = 2
          rw [HRR.out, fromC, if_neg (fun h => h HS.out), if_pos]; rw [HQ.out, decide_eq_false (fun h => h q0)]; simp
        have t0 : (xo == self) = true := by simpa using q0
        clear q0; refine Free.wp_seq (I := fun w' => Below wr.heap.size wr w') (Gr := fun w1 w2 => Below w1.heap.size w1 w2) (by kernel_rfl) (by kernel_rfl) (Below.refl _ _).drew ?_
        apply Free.sv; intro a w1 hI hp
        · have e3 := hp.sl 3; simp at e3; refine ⟨Free.wn, ?_⟩; clear hp; go_simp; rfl
        apply Free.sv; intro a w1 hI hp
        · have e26 := hp.b 0 0; have ka4 := (hI.cell (p := ⟨w.heap.size + 1, 4, none⟩) hw1).trans a4; refine ⟨Free.wn, ?_⟩; clear hp; go_simp; rfl
        apply Free.sv; intro a w1 hI hp
        · have e7 := hp.sl 7; simp at e7; refine ⟨Free.wn, ?_⟩; clear hp; go_simp; rfl
        apply Free.sv; intro a w1 hI hp
        · have e27 := hp.b 1 1; have e28 := hp.b 2 0; refine ⟨Free.wn, ?_⟩; clear hp; go_simp; rfl
        apply Free.sv; intro a w1 hI hp
        · have e29 := hp.b 3 0; refine ⟨Free.wn, ?_⟩; clear hp; go_simp; rfl
        apply Free.sv; intro a w1 hI hp
        · have e30 := hp.b 4 0; have kc0 := (hI.cell (p := ⟨b, off + k * 4, none⟩) hbl).trans c0; refine ⟨Free.wn, ?_⟩; clear hp; go_simp; rfl
        apply Free.sv; intro a w1 hI hp
        · have e3 := hp.sl 3; simp at e3; refine ⟨Free.wn, ?_⟩; clear hp; go_simp; rfl
        apply Free.sv; intro a w1 hI hp
        · have e32 := hp.b 6 0; have ka0 := (hI.cell (p := ⟨w.heap.size + 1, 0, none⟩) hw1).trans a0; refine ⟨Free.wn, ?_⟩; clear hp; go_simp; rfl
        apply Free.sv; intro a w1 hI hp
        · have e31 := hp.b 5 2; have e33 := hp.b 7 0; refine ⟨Free.wn, ?_⟩; clear hp; go_simp; rfl
        refine Free.Seq.done (by simp) (fun wz hIz => ?_); simp only [List.reverse_cons, List.reverse_nil, List.nil_append, List.cons_append, Free.All, Free.eqF, forall_eq]
        skip
        simp only [Free.putL, Act.put, List.setIfInBounds_toArray, List.set_cons_zero, List.set_cons_succ]; have HBZ := Lib.hid (HBr.out.trans (hIz.mono (by omega))); clear hIz
        dsimp only [Exit.inBlock, Exit.then]
        go_wp2_with fail
        go_ret
        exact ⟨ret_int (by rw [HR0.out]), HBZ.out⟩
      · have hq2 : selfB ⟨self, ep, nx, hd, sn⟩ = (sn.drop (k + 1)).all (fun m => decide (m.o ≠ self)) := by rw [HQ.out, decide_eq_true q0, Bool.true_and]
        have HQ2 := Lib.hid hq2; have t0 : (xo == self) = false := by simpa using q0
        clear q0 hq2; refine Free.wp_seq (I := fun w' => Below wr.heap.size wr w') (Gr := fun w1 w2 => Below w1.heap.size w1 w2) (by kernel_rfl) (by kernel_rfl) (Below.refl _ _).drew ?_
        apply Free.sv; intro a w1 hI hp
        · have e3 := hp.sl 3; simp at e3; refine ⟨Free.wn, ?_⟩; clear hp; go_simp; rfl
        apply Free.sv; intro a w1 hI hp
        · have e26 := hp.b 0 0; have ka4 := (hI.cell (p := ⟨w.heap.size + 1, 4, none⟩) hw1).trans a4; refine ⟨Free.wn, ?_⟩; clear hp; go_simp; rfl
        apply Free.sv; intro a w1 hI hp
        · have e7 := hp.sl 7; simp at e7; refine ⟨Free.wn, ?_⟩; clear hp; go_simp; rfl
        apply Free.sv; intro a w1 hI hp
        · have e27 := hp.b 1 1; have e28 := hp.b 2 0; refine ⟨Free.wn, ?_⟩; clear hp; go_simp; rfl
        apply Free.sv; intro a w1 hI hp
        · have e29 := hp.b 3 0; refine ⟨Free.wn, ?_⟩; clear hp; go_simp; rfl
        apply Free.sv; intro a w1 hI hp
        · have e30 := hp.b 4 0; have kc0 := (hI.cell (p := ⟨b, off + k * 4, none⟩) hbl).trans c0; refine ⟨Free.wn, ?_⟩; clear hp; go_simp; rfl
        apply Free.sv; intro a w1 hI hp
        · have e3 := hp.sl 3; simp at e3; refine ⟨Free.wn, ?_⟩; clear hp; go_simp; rfl
        apply Free.sv; intro a w1 hI hp
        · have e32 := hp.b 6 0; have ka0 := (hI.cell (p := ⟨w.heap.size + 1, 0, none⟩) hw1).trans a0; refine ⟨Free.wn, ?_⟩; clear hp; go_simp; rfl
        apply Free.sv; intro a w1 hI hp
        · have e31 := hp.b 5 2; have e33 := hp.b 7 0; refine ⟨Free.wn, ?_⟩; clear hp; go_simp; rfl
        refine Free.Seq.done (by simp) (fun wz hIz => ?_); simp only [List.reverse_cons, List.reverse_nil, List.nil_append, List.cons_append, Free.All, Free.eqF, forall_eq]
        skip
        simp only [Free.putL, Act.put, List.setIfInBounds_toArray, List.set_cons_zero, List.set_cons_succ]; have HBZ := Lib.hid (HBW.out.trans (hIz.mono hzr)); clear hIz
        dsimp only [Exit.inBlock, Exit.then]
        go_wp2_with fail
        exact ⟨⟨k + 1, by simp, by omega, HQ2.out, HBZ.out⟩, by simp only [intOf]; omega⟩
    · have hkn : k = n3 := by omega
      subst hkn; have HSB : Hid (selfB ⟨self, ep, nx, hd, sn⟩ = true) := by show _ = _; rw [HQ.out, List.drop_of_length_le (by rw [HLS.out]; exact Nat.le_refl _)]; rfl
      have q2 : wr.cell? ⟨w.heap.size, 2, none⟩ = some (.int .i64 256) := by rw [cell_of_cells G1.out]; rfl
      have hw0 : w.heap.size < wr.heap.size := by omega
      have hRR : R = if (NX && HO && true && marksB none sn) = false then 2 else if 256 < gaps sn ∨ 256 < hd.length ∨ 1048576 < Sn.bytes hd then 6 else 0 := by
        rw [HRR.out, fromC, if_neg (fun h => h HS.out), HSB.out, HNE.out, HHE.out]
      have HR2 := Lib.hid hRR; clear hRR HQ H0 HS HRR
      go_wp2_with fail
      refine (HCM.out wr HBr.out).mono ?_; rintro e2 w2 ⟨rfl, hb2⟩; have hz2 := hb2.size; have HB2 := Lib.hid (HBr.out.trans (hb2.mono (by omega))); have G1 := Lib.hid ((hb2.block w.heap.size (by omega)).trans G1.out); have G2 := Lib.hid ((hb2.block (w.heap.size + 1) (by omega)).trans G2.out); have b0 : w2.cell? ⟨w.heap.size + 1, 0, none⟩ = some (.int .i64 self) := by rw [cell_of_cells G2.out]; rfl
      have b1 : w2.cell? ⟨w.heap.size + 1, 1, none⟩ = some (.int .i64 ep) := by rw [cell_of_cells G2.out]; rfl
      have b2 : w2.cell? ⟨w.heap.size + 1, 2, none⟩ = some (.slice A1 n1 c1) := by rw [cell_of_cells G2.out]; rfl
      have b3 : w2.cell? ⟨w.heap.size + 1, 3, none⟩ = some (.slice A2 n2 c2) := by rw [cell_of_cells G2.out]; rfl
      have b4 : w2.cell? ⟨w.heap.size + 1, 4, none⟩ = some (.slice A3 k c3) := by rw [cell_of_cells G2.out]; rfl
      clear hb2 a0 a4 q2
      go_wp2_with fail
      refine (HNX.out w2 HB2.out).mono ?_; rintro e3 w3 ⟨rfl, hb3⟩; have hz3 := hb3.size; have HB3 := Lib.hid (HB2.out.trans (hb3.mono (by omega))); have G1 := Lib.hid ((hb3.block w.heap.size (by omega)).trans G1.out); have G2 := Lib.hid ((hb3.block (w.heap.size + 1) (by omega)).trans G2.out); have d0 : w3.cell? ⟨w.heap.size + 1, 0, none⟩ = some (.int .i64 self) := by rw [cell_of_cells G2.out]; rfl
      have d1 : w3.cell? ⟨w.heap.size + 1, 1, none⟩ = some (.int .i64 ep) := by rw [cell_of_cells G2.out]; rfl
      have d2 : w3.cell? ⟨w.heap.size + 1, 2, none⟩ = some (.slice A1 n1 c1) := by rw [cell_of_cells G2.out]; rfl
      have d3 : w3.cell? ⟨w.heap.size + 1, 3, none⟩ = some (.slice A2 n2 c2) := by rw [cell_of_cells G2.out]; rfl
      have d4 : w3.cell? ⟨w.heap.size + 1, 4, none⟩ = some (.slice A3 k c3) := by rw [cell_of_cells G2.out]; rfl
      clear hb3 b0 b1 b2 b3 b4
      cases NX
      · have HR0 : Hid (R = 2) := by show R = 2; rw [HR2.out, if_pos (by simp)]
        go_wp2_with fail
        go_ret
        exact ⟨ret_int (by rw [HR0.out]), HB3.out⟩
      go_wp2_with fail
      refine (HHO.out w3 HB3.out).mono ?_; rintro e4 w4 ⟨rfl, hb4⟩; have hz4 := hb4.size; have HB4 := Lib.hid (HB3.out.trans (hb4.mono (by omega))); have G1 := Lib.hid ((hb4.block w.heap.size (by omega)).trans G1.out); have G2 := Lib.hid ((hb4.block (w.heap.size + 1) (by omega)).trans G2.out); clear hb4 d0 d1 d2 d3 d4
      cases HO
      · have HR0 : Hid (R = 2) := by show R = 2; rw [HR2.out, if_pos (by simp)]
        go_wp2_with fail
        go_ret
        exact ⟨ret_int (by rw [HR0.out]), HB4.out⟩
      by_cases q1 : marksB none sn = true
      rotate_left
      · have hmf : marksB none sn = false := by simpa using q1
        have HR0 : Hid (R = 2) := by show R = 2; rw [HR2.out, if_pos (by rw [hmf]; simp)]
        have hF2 : F = 2 := by rw [HFE.out, fromE, if_pos hmf]
        subst hF2; clear q1 hmf
        go_wp2_with fail
        go_ret
        exact ⟨ret_int (by rw [HR0.out]), HB4.out⟩
      have hr3 : R = if 256 < gaps sn ∨ 256 < hd.length ∨ 1048576 < Sn.bytes hd then 6 else 0 := by rw [HR2.out, if_neg (by rw [q1]; simp)]
      have HR3 := Lib.hid hr3; have h48 : ∀ m ∈ hd, m.l.length ≤ 48 := hold_48 HHE.out.symm; have h0 : w4.cell? ⟨w.heap.size, 0, none⟩ = some (.int .i64 256) := by rw [cell_of_cells G1.out]; rfl
      have h1 : w4.cell? ⟨w.heap.size, 1, none⟩ = some (.int .i64 1048576) := by rw [cell_of_cells G1.out]; rfl
      have h3 : w4.cell? ⟨w.heap.size + 1, 3, none⟩ = some (.slice A2 n2 c2) := by rw [cell_of_cells G2.out]; rfl
      have hw40 : w.heap.size < w4.heap.size := by omega
      have hw41 : w.heap.size + 1 < w4.heap.size := by omega
      have HBYT : Hid (∀ W', Below w4.heap.size w4 W' → Calls Try.prog 55 #[.agg #[.int .i64 0, .int .i64 0, .int .i64 0, .int .i64 0, .int .i64 0, .slice none 0 0, .slice A2 n2 c2, .int .i64 0, .slice none 0 0]] W' fun e w' => e = .returned (.int .i64 (Sn.bytes hd)) ∧ Below W'.heap.size W' w') := fun W' h => HBY.out h48 W' (HB4.out.trans (h.mono (by omega)))
      obtain ⟨BY, hBY⟩ : ∃ z, z = Sn.bytes hd := ⟨_, rfl⟩; rw [← hBY] at HBYT HR3; have hlh := HLH.out
      by_cases q2 : 256 < gaps sn
      · have HR0 : Hid (R = 6) := by show R = 6; rw [HR3.out, if_pos (.inl q2)]
        have hF6 : F = 6 := by rw [HFE.out, fromE, if_neg (by rw [q1]; simp), if_pos q2]
        subst hF6; clear q1 q2 hr3 h48 hBY hlh
        go_wp2_with fail
        refine Free.wp_seq (I := fun w' => Below w4.heap.size w4 w') (Gr := fun w1 w2 => Below w1.heap.size w1 w2) (by kernel_rfl) (by kernel_rfl) (Below.refl _ _).drew ?_
        apply Free.sv; intro a w1 hI hp
        · have e8 := hp.sl 8; simp at e8; refine ⟨Free.wn, ?_⟩; clear hp; go_simp; rfl
        apply Free.sv; intro a w1 hI hp
        · have e52 := hp.b 0 0; refine ⟨Free.wn, ?_⟩; clear hp; go_simp; rfl
        apply Free.sv; intro a w1 hI hp
        · have e53 := hp.b 1 0; refine ⟨Free.wn, ?_⟩; clear hp; go_simp; rfl
        refine Free.sp 2 0 ?_; refine Free.sp 2 1 ?_; refine Free.sp 2 2 ?_; refine Free.sp 2 3 ?_; refine Free.sp 2 4 ?_; refine Free.sp 2 5 ?_
        apply Free.sv; intro a w1 hI hp
        · have e54 := hp.b 2 6; have e60 := hp.b 8 0; refine ⟨Free.wn, ?_⟩; clear hp; go_simp; rfl
        apply Free.sv; intro a w1 hI hp
        · have e61 := hp.b 9 0; refine ⟨Free.wn, ?_⟩; clear hp; go_simp; rfl
        refine Free.sp 10 0 ?_; refine Free.sp 10 1 ?_; refine Free.sp 10 2 ?_; refine Free.sp 10 3 ?_; refine Free.sp 10 4 ?_; refine Free.sp 10 5 ?_; refine Free.sp 10 6 ?_
        apply Free.sv; intro a w1 hI hp
        · have e62 := hp.b 10 7; have e69 := hp.b 17 0; refine ⟨Free.wn, ?_⟩; clear hp; go_simp; rfl
        refine Free.Seq.done (by simp) (fun wz hIz => ?_); simp only [List.reverse_cons, List.reverse_nil, List.nil_append, List.cons_append, Free.All, Free.eqF, forall_eq]
        skip
        simp only [Free.putL, Act.put, List.setIfInBounds_toArray, List.set_cons_zero, List.set_cons_succ]; have HBZ := Lib.hid (HB4.out.trans (hIz.mono (by omega))); clear hIz h0 h1 h3
        dsimp only [Exit.inBlock, Exit.then]
        go_wp2_with fail
        go_ret
        exact ⟨ret_int (by rw [HR0.out]), HBZ.out⟩
      have hF0 : F = 0 := by rw [HFE.out, fromE, if_neg (by rw [q1]; simp), if_neg q2]
      subst hF0
      by_cases q3 : 256 < n2
      · have HR0 : Hid (R = 6) := by show R = 6; rw [HR3.out, if_pos (.inr (.inl (by omega)))]
        have t3 : decide ((256 : Int) < (n2 : Int)) = true := by simp; omega
        clear q1 q2 hr3 h48 hBY hlh q3
        go_wp2_with fail
        refine Free.wp_seq (I := fun w' => Below w4.heap.size w4 w') (Gr := fun w1 w2 => Below w1.heap.size w1 w2) (by kernel_rfl) (by kernel_rfl) (Below.refl _ _).drew ?_
        apply Free.sv; intro a w1 hI hp
        · have e8 := hp.sl 8; simp at e8; refine ⟨Free.wn, ?_⟩; clear hp; go_simp; rfl
        apply Free.sv; intro a w1 hI hp
        · have e52 := hp.b 0 0; refine ⟨Free.wn, ?_⟩; clear hp; go_simp; rfl
        apply Free.sv; intro a w1 hI hp
        · have e53 := hp.b 1 0; refine ⟨Free.wn, ?_⟩; clear hp; go_simp; rfl
        apply Free.sv; intro a w1 hI hp
        · have e54 := hp.b 2 0; have e3 := hp.sl 3; simp at e3; refine ⟨hp.wt e54, ?_⟩; clear hp; go_simp; rfl
        apply Free.sv; intro a w1 hI hp
        · have e54 := hp.b 2 1; have e55 := hp.b 3 0; have kh3 := (hI.cell (p := ⟨w.heap.size + 1, 3, none⟩) hw41).trans h3; refine ⟨hp.wt e54, ?_⟩; clear hp; go_simp; rfl
        apply Free.sv; intro a w1 hI hp
        · have e54 := hp.b 2 2; have e56 := hp.b 4 0; refine ⟨hp.wt e54, ?_⟩; clear hp; go_simp; rfl
        apply Free.sv; intro a w1 hI hp
        · have e54 := hp.b 2 3; have e2 := hp.sl 2; simp at e2; refine ⟨hp.wt e54, ?_⟩; clear hp; go_simp; rfl
        apply Free.sv; intro a w1 hI hp
        · have e54 := hp.b 2 4; have e58 := hp.b 6 0; have kh0 := (hI.cell (p := ⟨w.heap.size, 0, none⟩) hw40).trans h0; refine ⟨hp.wt e54, ?_⟩; clear hp; go_simp; rfl
        apply Free.sv; intro a w1 hI hp
        · have e54 := hp.b 2 5; have e57 := hp.b 5 2; have e59 := hp.b 7 0; refine ⟨hp.wt e54, ?_⟩; clear hp; go_simp; rfl
        apply Free.sv; intro a w1 hI hp
        · have e54 := hp.b 2 6; have e60 := hp.b 8 0; refine ⟨Free.wn, ?_⟩; clear hp; go_simp; rfl
        apply Free.sv; intro a w1 hI hp
        · have e61 := hp.b 9 0; refine ⟨Free.wn, ?_⟩; clear hp; go_simp; rfl
        refine Free.sp 10 0 ?_; refine Free.sp 10 1 ?_; refine Free.sp 10 2 ?_; refine Free.sp 10 3 ?_; refine Free.sp 10 4 ?_; refine Free.sp 10 5 ?_; refine Free.sp 10 6 ?_
        apply Free.sv; intro a w1 hI hp
        · have e62 := hp.b 10 7; have e69 := hp.b 17 0; refine ⟨Free.wn, ?_⟩; clear hp; go_simp; rfl
        refine Free.Seq.done (by simp) (fun wz hIz => ?_); simp only [List.reverse_cons, List.reverse_nil, List.nil_append, List.cons_append, Free.All, Free.eqF, forall_eq]
        skip
        simp only [Free.putL, Act.put, List.setIfInBounds_toArray, List.set_cons_zero, List.set_cons_succ]; have HBZ := Lib.hid (HB4.out.trans (hIz.mono (by omega))); clear hIz h0 h1 h3
        dsimp only [Exit.inBlock, Exit.then]
        go_wp2_with fail
        go_ret
        exact ⟨ret_int (by rw [HR0.out]), HBZ.out⟩
      have t3 : decide ((256 : Int) < (n2 : Int)) = false := by simp; omega
      by_cases q4 : 1048576 < BY
      · have HR0 : Hid (R = 6) := by show R = 6; rw [HR3.out, if_pos (.inr (.inr q4))]
        have t4 : decide ((1048576 : Int) < (BY : Int)) = true := by simp; omega
        clear q1 q2 hr3 h48 hBY hlh q3 q4
        go_wp2_with fail
        refine Free.wp_seq (I := fun w' => Below w4.heap.size w4 w') (Gr := fun w1 w2 => Below w1.heap.size w1 w2) (by kernel_rfl) (by kernel_rfl) (Below.refl _ _).drew ?_
        apply Free.sv; intro a w1 hI hp
        · have e8 := hp.sl 8; simp at e8; refine ⟨Free.wn, ?_⟩; clear hp; go_simp; rfl
        apply Free.sv; intro a w1 hI hp
        · have e52 := hp.b 0 0; refine ⟨Free.wn, ?_⟩; clear hp; go_simp; rfl
        apply Free.sv; intro a w1 hI hp
        · have e53 := hp.b 1 0; refine ⟨Free.wn, ?_⟩; clear hp; go_simp; rfl
        apply Free.sv; intro a w1 hI hp
        · have e54 := hp.b 2 0; have e3 := hp.sl 3; simp at e3; refine ⟨hp.wt e54, ?_⟩; clear hp; go_simp; rfl
        apply Free.sv; intro a w1 hI hp
        · have e54 := hp.b 2 1; have e55 := hp.b 3 0; have kh3 := (hI.cell (p := ⟨w.heap.size + 1, 3, none⟩) hw41).trans h3; refine ⟨hp.wt e54, ?_⟩; clear hp; go_simp; rfl
        apply Free.sv; intro a w1 hI hp
        · have e54 := hp.b 2 2; have e56 := hp.b 4 0; refine ⟨hp.wt e54, ?_⟩; clear hp; go_simp; rfl
        apply Free.sv; intro a w1 hI hp
        · have e54 := hp.b 2 3; have e2 := hp.sl 2; simp at e2; refine ⟨hp.wt e54, ?_⟩; clear hp; go_simp; rfl
        apply Free.sv; intro a w1 hI hp
        · have e54 := hp.b 2 4; have e58 := hp.b 6 0; have kh0 := (hI.cell (p := ⟨w.heap.size, 0, none⟩) hw40).trans h0; refine ⟨hp.wt e54, ?_⟩; clear hp; go_simp; rfl
        apply Free.sv; intro a w1 hI hp
        · have e54 := hp.b 2 5; have e57 := hp.b 5 2; have e59 := hp.b 7 0; refine ⟨hp.wt e54, ?_⟩; clear hp; go_simp; rfl
        apply Free.sv; intro a w1 hI hp
        · have e54 := hp.b 2 6; have e60 := hp.b 8 0; refine ⟨Free.wn, ?_⟩; clear hp; go_simp; rfl
        apply Free.sv; intro a w1 hI hp
        · have e61 := hp.b 9 0; refine ⟨Free.wn, ?_⟩; clear hp; go_simp; rfl
        apply Free.sv; intro a w1 hI hp
        · have e62 := hp.b 10 0; have e3 := hp.sl 3; simp at e3; refine ⟨hp.wt e62, ?_⟩; clear hp; go_simp; rfl
        apply Free.sv; intro a w1 hI hp
        · have e62 := hp.b 10 1; have e63 := hp.b 11 0; have kh3 := (hI.cell (p := ⟨w.heap.size + 1, 3, none⟩) hw41).trans h3; refine ⟨hp.wt e62, ?_⟩; clear hp; go_simp; rfl
        apply Free.sv; intro a w1 hI hp
        · have e62 := hp.b 10 2; have e64 := hp.b 12 0; refine ⟨hp.wt e62, ?_⟩; clear hp; go_simp; rfl
        refine Free.Seq.call (T := Free.eqF (.int .i64 (BY : Int))) (fun _ _ _ h _ => h) (fun a w1 hI hp => ?_) ?_
        · have e62 := hp.b 10 3; have e65 := hp.b 13 0; refine ⟨hp.wt e62, 55, #[.agg #[.int .i64 0, .int .i64 0, .int .i64 0, .int .i64 0, .int .i64 0, .slice none 0 0, .slice A2 n2 c2, .int .i64 0, .slice none 0 0]], ?_, ?_⟩
          · clear hp; go_simp
          · refine (HBYT.out w1 hI).mono ?_; rintro e w' ⟨rfl, hb⟩; exact ⟨_, rfl, rfl, hb, hI.trans (hb.mono hI.size)⟩
        apply Free.sv; intro a w1 hI hp
        · have e62 := hp.b 10 4; have e2 := hp.sl 2; simp at e2; refine ⟨hp.wt e62, ?_⟩; clear hp; go_simp; rfl
        apply Free.sv; intro a w1 hI hp
        · have e62 := hp.b 10 5; have e67 := hp.b 15 0; have kh1 := (hI.cell (p := ⟨w.heap.size, 1, none⟩) hw40).trans h1; refine ⟨hp.wt e62, ?_⟩; clear hp; go_simp; rfl
        apply Free.sv; intro a w1 hI hp
        · have e62 := hp.b 10 6; have e66 := hp.b 14 2; have e68 := hp.b 16 0; refine ⟨hp.wt e62, ?_⟩; clear hp; go_simp; rfl
        apply Free.sv; intro a w1 hI hp
        · have e62 := hp.b 10 7; have e69 := hp.b 17 0; refine ⟨Free.wn, ?_⟩; clear hp; go_simp; rfl
        refine Free.Seq.done (by simp) (fun wz hIz => ?_); simp only [List.reverse_cons, List.reverse_nil, List.nil_append, List.cons_append, Free.All, Free.eqF, forall_eq]
        skip
        simp only [Free.putL, Act.put, List.setIfInBounds_toArray, List.set_cons_zero, List.set_cons_succ]; have HBZ := Lib.hid (HB4.out.trans (hIz.mono (by omega))); clear hIz h0 h1 h3
        dsimp only [Exit.inBlock, Exit.then]
        go_wp2_with fail
        go_ret
        exact ⟨ret_int (by rw [HR0.out]), HBZ.out⟩
      · have HR0 : Hid (R = 0) := by show R = 0; rw [HR3.out, if_neg (by omega)]
        have t4 : decide ((1048576 : Int) < (BY : Int)) = false := by simp; omega
        clear q1 q2 hr3 h48 hBY hlh q3 q4
        go_wp2_with fail
        refine Free.wp_seq (I := fun w' => Below w4.heap.size w4 w') (Gr := fun w1 w2 => Below w1.heap.size w1 w2) (by kernel_rfl) (by kernel_rfl) (Below.refl _ _).drew ?_
        apply Free.sv; intro a w1 hI hp
        · have e8 := hp.sl 8; simp at e8; refine ⟨Free.wn, ?_⟩; clear hp; go_simp; rfl
        apply Free.sv; intro a w1 hI hp
        · have e52 := hp.b 0 0; refine ⟨Free.wn, ?_⟩; clear hp; go_simp; rfl
        apply Free.sv; intro a w1 hI hp
        · have e53 := hp.b 1 0; refine ⟨Free.wn, ?_⟩; clear hp; go_simp; rfl
        apply Free.sv; intro a w1 hI hp
        · have e54 := hp.b 2 0; have e3 := hp.sl 3; simp at e3; refine ⟨hp.wt e54, ?_⟩; clear hp; go_simp; rfl
        apply Free.sv; intro a w1 hI hp
        · have e54 := hp.b 2 1; have e55 := hp.b 3 0; have kh3 := (hI.cell (p := ⟨w.heap.size + 1, 3, none⟩) hw41).trans h3; refine ⟨hp.wt e54, ?_⟩; clear hp; go_simp; rfl
        apply Free.sv; intro a w1 hI hp
        · have e54 := hp.b 2 2; have e56 := hp.b 4 0; refine ⟨hp.wt e54, ?_⟩; clear hp; go_simp; rfl
        apply Free.sv; intro a w1 hI hp
        · have e54 := hp.b 2 3; have e2 := hp.sl 2; simp at e2; refine ⟨hp.wt e54, ?_⟩; clear hp; go_simp; rfl
        apply Free.sv; intro a w1 hI hp
        · have e54 := hp.b 2 4; have e58 := hp.b 6 0; have kh0 := (hI.cell (p := ⟨w.heap.size, 0, none⟩) hw40).trans h0; refine ⟨hp.wt e54, ?_⟩; clear hp; go_simp; rfl
        apply Free.sv; intro a w1 hI hp
        · have e54 := hp.b 2 5; have e57 := hp.b 5 2; have e59 := hp.b 7 0; refine ⟨hp.wt e54, ?_⟩; clear hp; go_simp; rfl
        apply Free.sv; intro a w1 hI hp
        · have e54 := hp.b 2 6; have e60 := hp.b 8 0; refine ⟨Free.wn, ?_⟩; clear hp; go_simp; rfl
        apply Free.sv; intro a w1 hI hp
        · have e61 := hp.b 9 0; refine ⟨Free.wn, ?_⟩; clear hp; go_simp; rfl
        apply Free.sv; intro a w1 hI hp
        · have e62 := hp.b 10 0; have e3 := hp.sl 3; simp at e3; refine ⟨hp.wt e62, ?_⟩; clear hp; go_simp; rfl
        apply Free.sv; intro a w1 hI hp
        · have e62 := hp.b 10 1; have e63 := hp.b 11 0; have kh3 := (hI.cell (p := ⟨w.heap.size + 1, 3, none⟩) hw41).trans h3; refine ⟨hp.wt e62, ?_⟩; clear hp; go_simp; rfl
        apply Free.sv; intro a w1 hI hp
        · have e62 := hp.b 10 2; have e64 := hp.b 12 0; refine ⟨hp.wt e62, ?_⟩; clear hp; go_simp; rfl
        refine Free.Seq.call (T := Free.eqF (.int .i64 (BY : Int))) (fun _ _ _ h _ => h) (fun a w1 hI hp => ?_) ?_
        · have e62 := hp.b 10 3; have e65 := hp.b 13 0; refine ⟨hp.wt e62, 55, #[.agg #[.int .i64 0, .int .i64 0, .int .i64 0, .int .i64 0, .int .i64 0, .slice none 0 0, .slice A2 n2 c2, .int .i64 0, .slice none 0 0]], ?_, ?_⟩
          · clear hp; go_simp
          · refine (HBYT.out w1 hI).mono ?_; rintro e w' ⟨rfl, hb⟩; exact ⟨_, rfl, rfl, hb, hI.trans (hb.mono hI.size)⟩
        apply Free.sv; intro a w1 hI hp
        · have e62 := hp.b 10 4; have e2 := hp.sl 2; simp at e2; refine ⟨hp.wt e62, ?_⟩; clear hp; go_simp; rfl
        apply Free.sv; intro a w1 hI hp
        · have e62 := hp.b 10 5; have e67 := hp.b 15 0; have kh1 := (hI.cell (p := ⟨w.heap.size, 1, none⟩) hw40).trans h1; refine ⟨hp.wt e62, ?_⟩; clear hp; go_simp; rfl
        apply Free.sv; intro a w1 hI hp
        · have e62 := hp.b 10 6; have e66 := hp.b 14 2; have e68 := hp.b 16 0; refine ⟨hp.wt e62, ?_⟩; clear hp; go_simp; rfl
        apply Free.sv; intro a w1 hI hp
        · have e62 := hp.b 10 7; have e69 := hp.b 17 0; refine ⟨Free.wn, ?_⟩; clear hp; go_simp; rfl
        refine Free.Seq.done (by simp) (fun wz hIz => ?_); simp only [List.reverse_cons, List.reverse_nil, List.nil_append, List.cons_append, Free.All, Free.eqF, forall_eq]
        skip
        simp only [Free.putL, Act.put, List.setIfInBounds_toArray, List.set_cons_zero, List.set_cons_succ]; have HBZ := Lib.hid (HB4.out.trans (hIz.mono (by omega))); clear hIz h0 h1 h3
        dsimp only [Exit.inBlock, Exit.then]
        go_wp2_with fail
        go_ret
        exact ⟨ret_int (by rw [HR0.out]), HBZ.out⟩

set_option maxRecDepth 100000 in
set_option maxHeartbeats 4000000 in
theorem rcheck_st (s : St) (v : Sv) (B : Nat) (w : World) (hR : RdS w B v s) : Calls Try.prog 13 #[stv s v] w fun e w' => e = .returned (.int .i64 (ck s)) ∧ Below w.heap.size w w' := by
  have HCS := Lib.hid (fun W (h : Below w.heap.size w W) => rcheckstate_any s v B W (hR.below h)); have hl := hR.sn.len; clear hR; obtain ⟨R, hRR⟩ : ∃ R, R = ck s := ⟨_, rfl⟩; rw [← hRR]; rw [ck_eq] at hRR; obtain ⟨F, hF⟩ : ∃ x, x = fromC s := ⟨_, rfl⟩; rw [← hF] at HCS hRR; obtain ⟨A1, n1, c1, A2, n2, c2, A3, n3, c3⟩ := v; obtain ⟨self, ep, nx, hd, sn⟩ := s; unfold stv at HCS ⊢; simp only at HCS hRR hl ⊢; rw [hl] at hRR; have HRR := Lib.hid hRR; clear hF hRR hl
  go_enter Try.func13, Try.ntmps13
  go_wp2_with fail
  have hB0 : Below w.heap.size w (w.alloc (.cells #[.int .i64 self, .int .i64 ep, .slice A1 n1 c1, .slice A2 n2 c2, .slice A3 n3 c3] 26)) := (Below.refl _ _).alloc (Nat.le_refl _) _; refine (HCS.out _ hB0).mono ?_; rintro e1 w1 ⟨rfl, hb1⟩; have HB1 := Lib.hid (hB0.trans (hb1.mono (by simp))); have a4 := (hb1.cell (p := ⟨w.heap.size, 4, none⟩) (by simp)).trans (World.cell?_alloc_mark w _ _ _ 4); simp at a4; clear hb1 hB0 HCS
  by_cases h0 : F = 0
  · subst h0
    by_cases h1 : 65535 < n3
    · have HR0 : Hid (R = 6) := by show R = 6; rw [HRR.out, if_neg (by simp), if_pos h1]
      have t0 : decide ((65535 : Int) < (n3 : Int)) = true := by simp; omega
      clear h1
      go_wp2_with fail
      go_ret
      exact ⟨ret_int (by rw [HR0.out]), HB1.out⟩
    · have HR0 : Hid (R = 0) := by show R = 0; rw [HRR.out, if_neg (by simp), if_neg h1]
      have t0 : decide ((65535 : Int) < (n3 : Int)) = false := by simp; omega
      clear h1
      go_wp2_with fail
      go_ret
      exact ⟨ret_int (by rw [HR0.out]), HB1.out⟩
  · have HR0 : Hid (R = F) := by show R = F; rw [HRR.out, if_pos h0]
    have t0 : (F == 0) = false := by simpa using h0
    clear h0
    go_wp2_with fail
    go_ret
    exact ⟨ret_int (by rw [HR0.out]), HB1.out⟩
end Go.Proofs.Ytcnlgcmooegfkaa
namespace Go.Proofs.Ytcnlgcmooegfkaa
open Go.RowKit Mg Sn

/-- a slot holds bytes of the call's own -/
def Stg (B : Nat) (slot n : Nat) (l : List UInt8) (a : Act) (w : World) : Prop := ∃ A c, a.tmps.getD slot undef = .slice A n c ∧ OwnB w B 5 (.slice A n c) l
theorem Stg.other {B slot n d : Nat} {l : List UInt8} {a : Act} {w : World} {v : Value} (h : Stg B slot n l a w) (hd : some d ≠ some slot) : Stg B slot n l (a.put (some d) v) w := by
  obtain ⟨A, c, h1, h2⟩ := h; exact ⟨A, c, by rw [Free.getD_put, if_neg (fun e => hd e.1)]; exact h1, h2⟩
theorem Stg.mk {B slot n c : Nat} {l : List UInt8} {a : Act} {w : World} {A : Option Addr} (hs : slot < a.tmps.size) (h : OwnB w B 5 (.slice A n c) l) : Stg B slot n l (a.put (some slot) (.slice A n c)) w :=
  ⟨A, c, by rw [Free.getD_put, if_pos ⟨rfl, hs⟩], h⟩
/-- two calls, one behind the other -/
structure CI2 (C S0 : World → Prop) (B s1 n1 : Nat) (l1 : List UInt8) (s2 n2 : Nat) (l2 : List UInt8) (d1 d2 : Bool) (a : Act) (w : World) : Prop where
  c : C w
  g0 : d1 = false → S0 w
  g1 : d1 = true → d2 = false → Stg B s1 n1 l1 a w
  g2 : d2 = true → Stg B s2 n2 l2 a w
theorem CI2.other {C S0 : World → Prop} {B s1 n1 : Nat} {l1 : List UInt8} {s2 n2 : Nat} {l2 : List UInt8} {d1 d2 : Bool} {a : Act} {w : World} {d : Nat} {v : Value} (h : CI2 C S0 B s1 n1 l1 s2 n2 l2 d1 d2 a w) (h1 : some d ≠ some s1) (h2 : some d ≠ some s2) : CI2 C S0 B s1 n1 l1 s2 n2 l2 d1 d2 (a.put (some d) v) w :=
  ⟨h.c, h.g0, fun e e' => (h.g1 e e').other h1, fun e => (h.g2 e).other h2⟩
/-- four calls, one behind the other -/
structure CI4 (C S0 : World → Prop) (B s1 n1 : Nat) (l1 : List UInt8) (s2 n2 : Nat) (l2 : List UInt8) (s3 n3 : Nat) (l3 : List UInt8) (s4 n4 : Nat) (l4 : List UInt8) (d1 d2 d3 d4 : Bool) (a : Act) (w : World) : Prop where
  c : C w
  g0 : d1 = false → S0 w
  g1 : d1 = true → d2 = false → Stg B s1 n1 l1 a w
  g2 : d2 = true → d3 = false → Stg B s2 n2 l2 a w
  g3 : d3 = true → d4 = false → Stg B s3 n3 l3 a w
  g4 : d4 = true → Stg B s4 n4 l4 a w
theorem CI4.other {C S0 : World → Prop} {B s1 n1 : Nat} {l1 : List UInt8} {s2 n2 : Nat} {l2 : List UInt8} {s3 n3 : Nat} {l3 : List UInt8} {s4 n4 : Nat} {l4 : List UInt8} {d1 d2 d3 d4 : Bool} {a : Act} {w : World} {d : Nat} {v : Value} (h : CI4 C S0 B s1 n1 l1 s2 n2 l2 s3 n3 l3 s4 n4 l4 d1 d2 d3 d4 a w) (h1 : some d ≠ some s1) (h2 : some d ≠ some s2) (h3 : some d ≠ some s3) (h4 : some d ≠ some s4) : CI4 C S0 B s1 n1 l1 s2 n2 l2 s3 n3 l3 s4 n4 l4 d1 d2 d3 d4 (a.put (some d) v) w :=
  ⟨h.c, h.g0, fun e e' => (h.g1 e e').other h1, fun e e' => (h.g2 e e').other h2, fun e e' => (h.g3 e e').other h3, fun e => (h.g4 e).other h4⟩
theorem own_drew {w : World} {B : Nat} {e : TypeId} {v : Value} {l : List UInt8} (h : OwnB w B e v l) : OwnB w.drew B e v l := h
theorem own_ne {w : World} {B q : Nat} {v : Value} {l : List UInt8} {cs : Array Value} {T : TypeId} {fr : Nat × Nat} (h : OwnB w B 5 v l) (hq : w.heap[q]? = some (.cells cs T fr)) (hT : T ≠ 5) : some q ≠ v.ownBlock := fun e => by
  have h : w.ownsRow B 5 1 v l.length (bs l) := h
  rcases h.2 with ⟨rfl, _⟩ | ⟨g, cap, cur, rfl, _, hg, _⟩
  · simp [Value.ownBlock] at e
  · simp [Value.ownBlock] at e; subst e; rw [hq] at hg; injection hg with hg
    injection hg with _ hg
    exact hT hg
/-- only the calls write -/
def CGr (c1 c2 c3 c4 : Nat) (j : Nat) (x y : World) : Prop := j ≠ c1 → j ≠ c2 → j ≠ c3 → j ≠ c4 → y = x

set_option maxRecDepth 100000 in
set_option maxHeartbeats 8000000 in
theorem rbody_ok (s : St) (v : Sv) (Bv : Nat) (w : World) (hR : RdS w Bv v s) (hok : Ok s) : Calls Try.prog 25 #[stv s v] w fun e w' => ∃ A n c, e = .returned (.slice A n c) ∧ n = (bodyB s).length ∧ OwnB w' w.heap.size 5 (.slice A n c) (bodyB s) ∧ Below w.heap.size w w' := by
  have HR := Lib.hid hR; have HOK := Lib.hid hok; have hx1 := hok.nxl; have hx2 := hok.hd; have hx3 := hok.sn; have hx4 := hok.self; have hx5 := hok.ep; have hl1 := hR.nx.len; have hl2 := hR.hd.len; have hl3 := hR.sn.len; clear hR hok; obtain ⟨self, ep, nx, ml, sn⟩ := s; obtain ⟨A1, n1, c1, A2, n2, c2, A3, n3, c3⟩ := v; unfold stv; simp only at hx1 hx2 hx3 hx4 hx5 hl1 hl2 hl3 ⊢
  go_enter Try.func25, Try.ntmps25
  go_wp2_with fail
  obtain ⟨wb, hW⟩ : ∃ W, W = w.alloc (.cells #[.int .i64 self, .int .i64 ep, .slice A1 n1 c1, .slice A2 n2 c2, .slice A3 n3 c3] 26) := ⟨_, rfl⟩; rw [← hW]; have hz : w.heap.size + 1 = wb.heap.size := by rw [hW]; simp
  have g1 : wb.heap[w.heap.size]? = some (.cells #[.int .i64 self, .int .i64 ep, .slice A1 n1 c1, .slice A2 n2 c2, .slice A3 n3 c3] 26 (0, 0)) := by rw [hW]; exact heap_alloc_new w _
  have hB0 : Below w.heap.size w wb := by rw [hW]; exact (Below.refl _ _).alloc (Nat.le_refl _) _
  obtain ⟨B, hB⟩ : ∃ B, B = wb.heap.size := ⟨_, rfl⟩; have HBB : Hid (B ≤ wb.heap.size) := by show B ≤ _; omega
  have HBE := Lib.hid hB; have hwB : w.heap.size < B := by omega
  have G1 := Lib.hid g1; have HB0 := Lib.hid hB0; have a0 : wb.cell? ⟨w.heap.size, 0, none⟩ = some (.int .i64 self) := by rw [cell_of_cells g1]; rfl
  have a1 : wb.cell? ⟨w.heap.size, 1, none⟩ = some (.int .i64 ep) := by rw [cell_of_cells g1]; rfl
  have hs255 : self ≤ 255 := by omega
  clear hW g1 hB0 hB hz; refine Free.wp_seq4 (I := fun a L w' => CI2 (fun q => Below B wb q) (fun q => OwnB q B 5 (.slice none 0 0) ([])) B 13 (0 + 1) ([] ++ [b1 self]) 16 (0 + 1 + 2) ([] ++ [b1 self] ++ be (ep).toNat 2) (L 2) (L 5) a w') (Gr := fun j x y => CGr 2 5 5 5 j x y) (by kernel_rfl) (by kernel_rfl) ⟨(Below.refl _ _).drew, fun _ => World.ownsRow_nil _ _ _ _, fun e => (by cases e), fun e => (by cases e)⟩ ?_; refine Free.Seq4.val ?_ (fun _ => fun _ _ _ _ => rfl) (fun _ _ _ _ h => h.other (by decide) (by decide)) (fun a w1 L hI hp => ?_) ?_; rotate_left
  · have e1 := hp.sl 1; simp at e1; refine ⟨Free.wn, ?_⟩; clear hp; go_simp; rfl
  refine Free.Seq4.val ?_ (fun _ => fun _ _ _ _ => rfl) (fun _ _ _ _ h => h.other (by decide) (by decide)) (fun a w1 L hI hp => ?_) ?_; rotate_left
  · have e11 := hp.b 0 0; have ka0 := (hI.c.cell (p := ⟨w.heap.size, 0, none⟩) hwB).trans a0; refine ⟨Free.wn, ?_⟩; clear hp; go_simp; rfl
  refine Free.Seq4.call (T := fun _ _ => True) (fun _ _ _ _ _ _ _ _ => trivial) (fun a w1 L hI hp => ?_) ?_
  · have e12 := hp.b 1 0; have hO := hI.g0 hp.fresh; have hsz := hI.c.size; have hup : L 5 = false := hp.up 5 40 (by kernel_rfl); have hts : 13 < a.tmps.size := by rw [hp.size]; exact Nat.lt_of_lt_of_eq (show (_ : Nat) < 118 by omega) (by kernel_rfl)
    refine ⟨Free.wn, 43, #[.slice none (0) 0, .int .i64 self], ?_, ?_⟩
    · go_simp
    · refine (rone_any none (0) 0 B ([]) (self) w1 hO rfl (by omega) (by have := HBB.out; omega) hx4.1 hs255).mono ?_; rintro e w' ⟨A', c', rfl, h1, h2, h3⟩; exact ⟨_, rfl, trivial, fun h _ _ _ => absurd rfl h, ⟨hI.c.trans h2, fun e => (by cases e), fun _ _ => Stg.mk hts h1, fun e => absurd ((show L 5 = false from hp.up 5 40 (by kernel_rfl)).symm.trans (show L 5 = true from e)) (by simp)⟩⟩
  refine Free.Seq4.val ?_ (fun _ => fun _ _ _ _ => rfl) (fun _ _ _ _ h => h.other (by decide) (by decide)) (fun a w1 L hI hp => ?_) ?_; rotate_left
  · have e1 := hp.sl 1; simp at e1; refine ⟨Free.wn, ?_⟩; clear hp; go_simp; rfl
  refine Free.Seq4.val ?_ (fun _ => fun _ _ _ _ => rfl) (fun _ _ _ _ h => h.other (by decide) (by decide)) (fun a w1 L hI hp => ?_) ?_; rotate_left
  · have e14 := hp.b 3 0; have ka1 := (hI.c.cell (p := ⟨w.heap.size, 1, none⟩) hwB).trans a1; refine ⟨Free.wn, ?_⟩; clear hp; go_simp; rfl
  refine Free.Seq4.call (T := fun _ _ => True) (fun _ _ _ _ _ _ _ _ => trivial) (fun a w1 L hI hp => ?_) ?_
  · have e15 := hp.b 4 0; have hd1 : L 2 = true := hp.did 2 40 (by kernel_rfl); have hf : L 5 = false := hp.fresh; obtain ⟨A0, c0, e13, hO⟩ := hI.g1 hd1 hf; have e13 : a.tmps[13]?.getD undef = .slice A0 (0 + 1) c0 := by simpa using e13
    have hsz := hI.c.size; have hts : 16 < a.tmps.size := by rw [hp.size]; exact Nat.lt_of_lt_of_eq (show (_ : Nat) < 118 by omega) (by kernel_rfl)
    refine ⟨Free.wn, 42, #[.slice A0 (0 + 1) c0, .int .i64 ep], ?_, ?_⟩
    · go_simp
    · refine (rtwo_any A0 (0 + 1) c0 B ([] ++ [b1 self]) (ep) w1 hO rfl (by omega) (by have := HBB.out; omega) hx5.1 hx5.2).mono ?_; rintro e w' ⟨A', c', rfl, h1, h2, h3⟩; exact ⟨_, rfl, trivial, fun _ h _ _ => absurd rfl h, ⟨hI.c.trans h2, fun e => absurd ((hp.did 2 40 (by kernel_rfl)).symm.trans (show L 2 = false from e)) (by simp), fun _ e => (by cases e), fun _ => Stg.mk hts h1⟩⟩
  refine Free.Seq4.op (T := fun v w' => ∃ A' c', v = .slice A' (0 + 1 + 2) c' ∧ OwnB w' B 5 (.slice A' (0 + 1 + 2) c') ([] ++ [b1 self] ++ be (ep).toNat 2)) (fun j hj hr v x y ⟨A', c', e, h⟩ hg => ?_) (fun a w1 L hI hp => ?_) ?_
  · have e2 : y = x := hg (fun e => by have h9 := hr 40; rw [e] at h9 <;> exact absurd (h9.symm.trans (by kernel_rfl : _ = true)) (by decide)) (fun e => by have h9 := hr 40; rw [e] at h9 <;> exact absurd (h9.symm.trans (by kernel_rfl : _ = true)) (by decide)) (fun e => by have h9 := hr 40; rw [e] at h9 <;> exact absurd (h9.symm.trans (by kernel_rfl : _ = true)) (by decide)) (fun e => by have h9 := hr 40; rw [e] at h9 <;> exact absurd (h9.symm.trans (by kernel_rfl : _ = true)) (by decide)); rw [e2]; exact ⟨A', c', e, h⟩
  · skip
    obtain ⟨A0, c0, e16, hO⟩ := hI.g2 (hp.did 5 40 (by kernel_rfl)); have e16 : a.tmps[16]?.getD undef = .slice A0 (0 + 1 + 2) c0 := by simpa using e16
    refine ⟨Free.wn, .slice A0 (0 + 1 + 2) c0, w1, ?_, ⟨A0, c0, rfl, hO⟩, fun _ _ _ _ => rfl, hI.other (by decide) (by decide)⟩; clear hp; go_simp
  refine Free.Seq4.done (by simp) (fun wz L hLz => ?_); simp only [List.reverse_cons, List.reverse_nil, List.nil_append, List.cons_append, Free.All, Free.eqF, forall_eq]; rintro x13 - x16 - x3 ⟨A9, c9, rfl, ho9⟩ hIz; simp only [Free.putL, Act.put, List.setIfInBounds_toArray, List.set_cons_zero, List.set_cons_succ]; have HO3 := Lib.hid ho9; have HBz := Lib.hid hIz.c; have G1z := Lib.hid ((hIz.c.block w.heap.size hwB).trans G1.out); have a2 : wz.cell? ⟨w.heap.size, 2, none⟩ = some (.slice A1 n1 c1) := by rw [cell_of_cells G1z.out]; rfl
  have hzz := hIz.c.size; have hBz : B ≤ wz.heap.size := by have := HBB.out; omega
  clear hIz ho9 a0 a1
  dsimp only [Exit.inBlock, Exit.then]
  go_wp2_with fail
  refine (rone_any A9 3 c9 B _ (n1 : Int) wz HO3.out (by simp [be_len]) (by omega) hBz (by omega) (by omega)).mono ?_; rintro e2 w2 ⟨A2', c2', rfl, ho2, hb2, _⟩; have HO4 : Hid (OwnB w2 B 5 (.slice A2' 4 c2') (preB ⟨self, ep, nx, ml, sn⟩)) := by
    show OwnB _ _ _ _ _
    have e1 : b1 (n1 : Int) = UInt8.ofNat nx.length := by rw [hl1]; rfl
    rw [preB, ← e1]
    simpa [beL] using ho2
  have HB2 := Lib.hid (HBz.out.trans hb2); have hz2 := hb2.size; clear ho2 hb2 a2
  go_wp2_with fail
  go_loopw [3, 4] (fun v i wr => ∃ (k : Nat) (A' : Option Addr) (m c' : Nat), i = .int .i64 k ∧ k ≤ n1 ∧ v = .slice A' m c' ∧ m ≤ 4 + 3 * k ∧ Hid (m = 4 + 3 * k ∧ OwnB wr B 5 (.slice A' m c') (preB ⟨self, ep, nx, ml, sn⟩ ++ nxsB (nx.take k)) ∧ Below B wb wr)) (fun _ i _ => n1 - (intOf i).toNat)
  case atStart => exact ⟨0, A2', 4, c2', rfl, Nat.zero_le _, rfl, by omega, rfl, by simpa [nxsB] using HO4.out, HB2.out⟩
  case round =>
    obtain ⟨k, A', m, c', rfl, hk, rfl, hm, hmm, hO, hb⟩ := hrel; have HMM := Lib.hid hmm; have HOr := Lib.hid hO; have HBr := Lib.hid hb; have hzr := hb.size; have hBr : B ≤ wr.heap.size := by have := HBB.out; omega
    have hlr : (preB ⟨self, ep, nx, ml, sn⟩ ++ nxsB (nx.take k)).length = m := by
      rw [List.length_append, preB_len, nxsB_len, List.length_take, Nat.min_eq_left (by omega), hmm]
    have HLR := Lib.hid hlr; have HBw := Lib.hid (HB0.out.trans (hb.mono (by omega))); have G1r := Lib.hid ((hb.block w.heap.size hwB).trans G1.out); have a2 : wr.cell? ⟨w.heap.size, 2, none⟩ = some (.slice A1 n1 c1) := by rw [cell_of_cells G1r.out]; rfl
    clear hmm hO hb hlr
    by_cases hlt : k < n1
    · obtain ⟨b, off, x, cs, rfl, hBb, hbl, hx, hcs, hlen, hcell⟩ := (HR.out.nx.below keeps_nx HBw.out).at' hlt; have hbw : b < w.heap.size := by
        obtain ⟨b', _, e, _, hb', _⟩ := HR.out.nx.at_ (show 0 < n1 by omega); injection e with e
        injection e with e _
        rw [e]; exact hb'
      unfold ENx at hcs; subst hcs; have x0 := hcell 0 _ rfl; have x1 := hcell 1 _ rfl; rw [Nat.add_zero] at x0; have hxd := (nextB_in HOK.out.nx x (List.mem_of_getElem? hx)).2; have hxc := nextB_c HOK.out.nx x (List.mem_of_getElem? hx); have HX := Lib.hid hx; obtain ⟨d, cn⟩ := x; simp only at x0 x1 hxd hxc; have hbB : b < B := by omega
      have hkb : k < 281474976710656 := by omega
      have hd0 : 0 ≤ d := hxd.1; have hd1 : d ≤ 255 := by omega
      have hc0 : 0 ≤ cn := by omega
      have hc1 : cn ≤ 65535 := hxc.2; obtain ⟨L0, hL0⟩ : ∃ L, L = preB ⟨self, ep, nx, ml, sn⟩ ++ nxsB (nx.take k) := ⟨_, rfl⟩; rw [← hL0] at HOr HLR; have HL0 := Lib.hid hL0; clear hcell hlen hx hL0
      go_wp2_with fail
      refine Free.wp_seq4 (I := fun a L w' => CI2 (fun q => Below B wr q) (fun q => OwnB q B 5 (.slice A' m c') (L0)) B 36 (m + 1) (L0 ++ [b1 d]) 43 (m + 1 + 2) (L0 ++ [b1 d] ++ be (cn).toNat 2) (L 7) (L 14) a w') (Gr := fun j x y => CGr 7 14 14 14 j x y) (by kernel_rfl) (by kernel_rfl) ⟨(Below.refl _ _).drew, fun _ => own_drew HOr.out, fun e => (by cases e), fun e => (by cases e)⟩ ?_; refine Free.Seq4.val ?_ (fun _ => fun _ _ _ _ => rfl) (fun _ _ _ _ h => h.other (by decide) (by decide)) (fun a w1 L hI hp => ?_) ?_; rotate_left
      · have e3 := hp.sl 3; simp at e3; refine ⟨Free.wn, ?_⟩; clear hp; go_simp; rfl
      refine Free.Seq4.val ?_ (fun _ => fun _ _ _ _ => rfl) (fun _ _ _ _ h => h.other (by decide) (by decide)) (fun a w1 L hI hp => ?_) ?_; rotate_left
      · have e1 := hp.sl 1; simp at e1; refine ⟨Free.wn, ?_⟩; clear hp; go_simp; rfl
      refine Free.Seq4.val ?_ (fun _ => fun _ _ _ _ => rfl) (fun _ _ _ _ h => h.other (by decide) (by decide)) (fun a w1 L hI hp => ?_) ?_; rotate_left
      · have e30 := hp.b 1 0; have ka2 := (hI.c.cell (p := ⟨w.heap.size, 2, none⟩) hwB).trans a2; refine ⟨Free.wn, ?_⟩; clear hp; go_simp; rfl
      refine Free.Seq4.val ?_ (fun _ => fun _ _ _ _ => rfl) (fun _ _ _ _ h => h.other (by decide) (by decide)) (fun a w1 L hI hp => ?_) ?_; rotate_left
      · have e4 := hp.sl 4; simp at e4; refine ⟨Free.wn, ?_⟩; clear hp; go_simp; rfl
      refine Free.Seq4.val ?_ (fun _ => fun _ _ _ _ => rfl) (fun _ _ _ _ h => h.other (by decide) (by decide)) (fun a w1 L hI hp => ?_) ?_; rotate_left
      · have e31 := hp.b 2 1; have e32 := hp.b 3 0; refine ⟨Free.wn, ?_⟩; clear hp; go_simp; rfl
      refine Free.Seq4.val ?_ (fun _ => fun _ _ _ _ => rfl) (fun _ _ _ _ h => h.other (by decide) (by decide)) (fun a w1 L hI hp => ?_) ?_; rotate_left
      · have e33 := hp.b 4 0; refine ⟨Free.wn, ?_⟩; clear hp; go_simp; rfl
      refine Free.Seq4.val ?_ (fun _ => fun _ _ _ _ => rfl) (fun _ _ _ _ h => h.other (by decide) (by decide)) (fun a w1 L hI hp => ?_) ?_; rotate_left
      · have e34 := hp.b 5 0; have kx0 := (hI.c.cell (p := ⟨b, off + k * 2, none⟩) hbB).trans x0; refine ⟨Free.wn, ?_⟩; clear hp; go_simp; rfl
      refine Free.Seq4.call (T := fun _ _ => True) (fun _ _ _ _ _ _ _ _ => trivial) (fun a w1 L hI hp => ?_) ?_
      · have e29 := hp.b 0 6; have e35 := hp.b 6 0; have hO := hI.g0 hp.fresh; have hsz := hI.c.size; have hup : L 14 = false := hp.up 14 40 (by kernel_rfl); have hts : 36 < a.tmps.size := by rw [hp.size]; exact Nat.lt_of_lt_of_eq (show (_ : Nat) < 118 by omega) (by kernel_rfl)
        refine ⟨Free.wn, 43, #[.slice A' (m) c', .int .i64 d], ?_, ?_⟩
        · go_simp
        · refine (rone_any A' (m) c' B (L0) (d) w1 hO HLR.out (by omega) (by have := hBr; omega) hd0 hd1).mono ?_; rintro e w' ⟨A', c', rfl, h1, h2, h3⟩; exact ⟨_, rfl, trivial, fun h _ _ _ => absurd rfl h, ⟨hI.c.trans h2, fun e => (by cases e), fun _ _ => Stg.mk hts h1, fun e => absurd ((show L 14 = false from hp.up 14 40 (by kernel_rfl)).symm.trans (show L 14 = true from e)) (by simp)⟩⟩
      refine Free.Seq4.val ?_ (fun _ => fun _ _ _ _ => rfl) (fun _ _ _ _ h => h.other (by decide) (by decide)) (fun a w1 L hI hp => ?_) ?_; rotate_left
      · have e1 := hp.sl 1; simp at e1; refine ⟨Free.wn, ?_⟩; clear hp; go_simp; rfl
      refine Free.Seq4.val ?_ (fun _ => fun _ _ _ _ => rfl) (fun _ _ _ _ h => h.other (by decide) (by decide)) (fun a w1 L hI hp => ?_) ?_; rotate_left
      · have e37 := hp.b 8 0; have ka2 := (hI.c.cell (p := ⟨w.heap.size, 2, none⟩) hwB).trans a2; refine ⟨Free.wn, ?_⟩; clear hp; go_simp; rfl
      refine Free.Seq4.val ?_ (fun _ => fun _ _ _ _ => rfl) (fun _ _ _ _ h => h.other (by decide) (by decide)) (fun a w1 L hI hp => ?_) ?_; rotate_left
      · have e4 := hp.sl 4; simp at e4; refine ⟨Free.wn, ?_⟩; clear hp; go_simp; rfl
      refine Free.Seq4.val ?_ (fun _ => fun _ _ _ _ => rfl) (fun _ _ _ _ h => h.other (by decide) (by decide)) (fun a w1 L hI hp => ?_) ?_; rotate_left
      · have e38 := hp.b 9 1; have e39 := hp.b 10 0; refine ⟨Free.wn, ?_⟩; clear hp; go_simp; rfl
      refine Free.Seq4.val ?_ (fun _ => fun _ _ _ _ => rfl) (fun _ _ _ _ h => h.other (by decide) (by decide)) (fun a w1 L hI hp => ?_) ?_; rotate_left
      · have e40 := hp.b 11 0; refine ⟨Free.wn, ?_⟩; clear hp; go_simp; rfl
      refine Free.Seq4.val ?_ (fun _ => fun _ _ _ _ => rfl) (fun _ _ _ _ h => h.other (by decide) (by decide)) (fun a w1 L hI hp => ?_) ?_; rotate_left
      · have e41 := hp.b 12 0; have kx1 := (hI.c.cell (p := ⟨b, off + k * 2 + 1, none⟩) hbB).trans x1; refine ⟨Free.wn, ?_⟩; clear hp; go_simp; rfl
      refine Free.Seq4.call (T := fun _ _ => True) (fun _ _ _ _ _ _ _ _ => trivial) (fun a w1 L hI hp => ?_) ?_
      · have e42 := hp.b 13 0; have hd1 : L 7 = true := hp.did 7 40 (by kernel_rfl); have hf : L 14 = false := hp.fresh; obtain ⟨A0, c0, e36, hO⟩ := hI.g1 hd1 hf; have e36 : a.tmps[36]?.getD undef = .slice A0 (m + 1) c0 := by simpa using e36
        have hsz := hI.c.size; have hts : 43 < a.tmps.size := by rw [hp.size]; exact Nat.lt_of_lt_of_eq (show (_ : Nat) < 118 by omega) (by kernel_rfl)
        refine ⟨Free.wn, 42, #[.slice A0 (m + 1) c0, .int .i64 cn], ?_, ?_⟩
        · go_simp
        · refine (rtwo_any A0 (m + 1) c0 B (L0 ++ [b1 d]) (cn) w1 hO (by rw [List.length_append, HLR.out]; rfl) (by omega) (by have := hBr; omega) hc0 hc1).mono ?_; rintro e w' ⟨A', c', rfl, h1, h2, h3⟩; exact ⟨_, rfl, trivial, fun _ h _ _ => absurd rfl h, ⟨hI.c.trans h2, fun e => absurd ((hp.did 7 40 (by kernel_rfl)).symm.trans (show L 7 = false from e)) (by simp), fun _ e => (by cases e), fun _ => Stg.mk hts h1⟩⟩
      refine Free.Seq4.op (T := fun v w' => ∃ A' c', v = .slice A' (m + 1 + 2) c' ∧ OwnB w' B 5 (.slice A' (m + 1 + 2) c') (L0 ++ [b1 d] ++ be (cn).toNat 2)) (fun j hj hr v x y ⟨A', c', e, h⟩ hg => ?_) (fun a w1 L hI hp => ?_) ?_
      · have e2 : y = x := hg (fun e => by have h9 := hr 40; rw [e] at h9 <;> exact absurd (h9.symm.trans (by kernel_rfl : _ = true)) (by decide)) (fun e => by have h9 := hr 40; rw [e] at h9 <;> exact absurd (h9.symm.trans (by kernel_rfl : _ = true)) (by decide)) (fun e => by have h9 := hr 40; rw [e] at h9 <;> exact absurd (h9.symm.trans (by kernel_rfl : _ = true)) (by decide)) (fun e => by have h9 := hr 40; rw [e] at h9 <;> exact absurd (h9.symm.trans (by kernel_rfl : _ = true)) (by decide)); rw [e2]; exact ⟨A', c', e, h⟩
      · skip
        obtain ⟨A0, c0, e43, hO⟩ := hI.g2 (hp.did 14 40 (by kernel_rfl)); have e43 : a.tmps[43]?.getD undef = .slice A0 (m + 1 + 2) c0 := by simpa using e43
        refine ⟨Free.wn, .slice A0 (m + 1 + 2) c0, w1, ?_, ⟨A0, c0, rfl, hO⟩, fun _ _ _ _ => rfl, hI.other (by decide) (by decide)⟩; clear hp; go_simp
      refine Free.Seq4.done (by simp) (fun wz L hLz => ?_); simp only [List.reverse_cons, List.reverse_nil, List.nil_append, List.cons_append, Free.All, Free.eqF, forall_eq]; rintro x36 - x43 - x3 ⟨A9, c9, rfl, ho9⟩ hIz; simp only [Free.putL, Act.put, List.setIfInBounds_toArray, List.set_cons_zero, List.set_cons_succ]; have htk : nx.take (k + 1) = nx.take k ++ [⟨d, cn⟩] := by rw [List.take_add_one, HX.out]; rfl
      have HO9 : Hid (OwnB wz B 5 (.slice A9 (m + 1 + 2) c9) (preB ⟨self, ep, nx, ml, sn⟩ ++ nxsB (nx.take (k + 1)))) := by
        show OwnB _ _ _ _ _
        rw [htk, nxsB_snoc, nxB, ← List.append_assoc, ← HL0.out]
        simpa using ho9
      have HB9 := Lib.hid (HBr.out.trans hIz.c); have HM9 : Hid (m + 1 + 2 = 4 + 3 * (k + 1)) := by show _ = _; have := HMM.out; omega
      clear hIz ho9 htk x0 x1 a2
      dsimp only [Exit.inBlock, Exit.then]
      go_wp2_with fail
      exact ⟨⟨k + 1, A9, m + 1 + 2, c9, by simp, by omega, by simp, by omega, HM9.out, HO9.out, HB9.out⟩, by simp only [intOf]; omega⟩
    · have hkn : k = n1 := by omega
      subst hkn; have htn : nx.take k = nx := List.take_of_length_le (by omega); have ho := HOr.out; rw [htn] at ho; have hlr := HLR.out; rw [htn] at hlr; have a3 : wr.cell? ⟨w.heap.size, 3, none⟩ = some (.slice A2 n2 c2) := by rw [cell_of_cells G1r.out]; rfl
      have HOs := Lib.hid ho; have HLs := Lib.hid hlr; clear htn ho hlr HO4 HB2 HOr HLR
      go_wp2_with fail
      refine (rtwo_any A' m c' B _ (n2 : Int) wr HOs.out HLs.out (by omega) hBr (by omega) (by omega)).mono ?_; rintro e5 w5 ⟨A5, c5, rfl, ho5, hb5, _⟩; have HB5 := Lib.hid (HBr.out.trans hb5); have hz5 := hb5.size; obtain ⟨PR, hPR⟩ : ∃ PR, PR = preB ⟨self, ep, nx, ml, sn⟩ ++ nxsB nx ++ beL [(n2 : Int)] := ⟨_, rfl⟩; have HO5 : Hid (OwnB w5 B 5 (.slice A5 (m + 2) c5) PR) := by
        show OwnB _ _ _ _ _
        rw [hPR]
        simpa [beL] using ho5
      have hprl : PR.length = m + 2 := by rw [hPR, List.length_append, HLs.out, beL_len]; rfl
      have HPR := Lib.hid hPR; have HPRL := Lib.hid hprl; have hby := HOK.out.by_; simp only at hby; clear ho5 hb5 hPR hprl a2 a3 HOs HBr
      go_wp2_with fail
      go_loopw [3, 5] (fun v i wr => ∃ (j : Nat) (A' : Option Addr) (p c' : Nat), i = .int .i64 j ∧ j ≤ n2 ∧ v = .slice A' p c' ∧ p ≤ 2000000 ∧ Hid (p = m + 2 + (7 * j + Sn.bytes (ml.take j)) ∧ OwnB wr B 5 (.slice A' p c') (PR ++ mssB (ml.take j)) ∧ Below B wb wr)) (fun _ i _ => n2 - (intOf i).toNat)
      case atStart => exact ⟨0, A5, m + 2, c5, rfl, Nat.zero_le _, rfl, by omega, by simp [Sn.bytes], by simpa [mssB] using HO5.out, HB5.out⟩
      case round =>
        obtain ⟨j, A', p, c', rfl, hj, rfl, hp2, hp, hO, hb⟩ := hrel; have HPP := Lib.hid hp; have HOr := Lib.hid hO; have HBr := Lib.hid hb; have hzr := hb.size; have hBr : B ≤ wr.heap.size := by have := HBB.out; omega
        have hlr : (PR ++ mssB (ml.take j)).length = p := by
          rw [List.length_append, HPRL.out, mssB_len, List.length_take, Nat.min_eq_left (by omega), hp]
        have HLR := Lib.hid hlr; have HBw := Lib.hid (HB0.out.trans (hb.mono (by omega))); have G1r := Lib.hid ((hb.block w.heap.size hwB).trans G1.out); have a3 : wr.cell? ⟨w.heap.size, 3, none⟩ = some (.slice A2 n2 c2) := by rw [cell_of_cells G1r.out]; rfl
        clear hp hO hb hlr
        by_cases hlt : j < n2
        · obtain ⟨b, off, x, cs, rfl, hBb, hbl, hx, hcs, hlen, hcell⟩ := (HR.out.hd.below keeps_ms HBw.out).at' hlt; obtain ⟨Ad, cd, rfl, hrd⟩ := hcs; have x0 := hcell 0 _ rfl; have x1 := hcell 1 _ rfl; have x2 := hcell 2 _ rfl; have x3 := hcell 3 _ rfl; have x4 := hcell 4 _ rfl; rw [Nat.add_zero] at x0; have hck := appB_in HOK.out.ap x (List.mem_of_getElem? hx); have hln := (chkM_in hck).2.2.2; have hbt : Sn.bytes (ml.take (j + 1)) ≤ Sn.bytes ml := by
            have := bytes_append (ml.take (j + 1)) (ml.drop (j + 1)); rw [List.take_append_drop] at this; omega
          have HX := Lib.hid hx; have HRD := Lib.hid hrd.1; obtain ⟨⟨io, id, ie, ic⟩, dl⟩ := x; simp only at x0 x1 x2 x3 x4 hck hln; obtain ⟨nd, hnd⟩ : ∃ nd, nd = dl.length := ⟨_, rfl⟩; rw [← hnd] at x4 hck hln; have HND := Lib.hid hnd; have HCK := Lib.hid hck; have hkb : j < 281474976710656 := by omega
          have htk : ml.take (j + 1) = ml.take j ++ [⟨⟨io, id, ie, ic⟩, dl⟩] := by rw [List.take_add_one, HX.out]; rfl
          have HTK := Lib.hid htk; have hp9 : p + 1 + (6 + nd) ≤ 2000000 := by
            have h1 := HPP.out; have h2 : Sn.bytes [⟨⟨io, id, ie, ic⟩, dl⟩] = nd := by rw [hnd]; simp [Sn.bytes]
            rw [htk, bytes_append, h2] at hbt; omega
          clear hcell hlen hx hrd hnd hck htk hbt
          go_wp2_with fail
          have hpu := rput_ok ⟨io, id, ie, ic⟩ Ad nd cd dl wr (by rw [HND.out]; exact HRD.out) HCK.out; unfold msgv at hpu; refine hpu.mono ?_; rintro e9 w9 ⟨A9, c9, rfl, ho9, hb9⟩; have hz9 := hb9.size; have HO9 := Lib.hid (own_below HOr.out hb9); have HB9 := Lib.hid (HBr.out.trans (hb9.mono hBr)); have HRp := Lib.hid (OwnB.rd ho9 (by rw [List.length_append, idB_len, HND.out]) (by omega)); have HGA : Hid (∀ q, Value.ownBlock (.slice A9 (6 + nd) c9) = some q → wr.heap.size ≤ q ∧ q < w9.heap.size) := fun q hq => by have := (OwnB.row ho9 (by rw [List.length_append, idB_len, HND.out])).lt q hq; exact ⟨by omega, this.2⟩
          have HOB : Hid (∀ q, Value.ownBlock (.slice A' p c') = some q → q < wr.heap.size) := fun q hq => (OwnB.row HOr.out HLR.out).lt q hq |>.2
          clear hpu ho9 hb9 x0 x1 x2 x3 x4 a3
          go_wp2_with fail
          refine (rone_any A' p c' B _ (6 + (nd : Int)) w9 HO9.out HLR.out (by omega) (by omega) (by omega) (by omega)).mono ?_; rintro e7 w7 ⟨A7, c7, rfl, ho7, hb7, hg7⟩; have HO7 := Lib.hid (OwnB.row ho7 (by rw [List.length_append, HLR.out]; rfl)); have HB7 := Lib.hid (HB9.out.trans hb7); have hz7 := hb7.size; have HR7 := Lib.hid (HRp.out.keep hb7.size (fun bq oq eq hbq => hg7.block bq hbq (fun hh => by have h8 := HOB.out bq hh.symm; have h9 := (HGA.out bq (by rw [eq]; rfl)).1; omega))); clear ho7 hb7 hg7
          go_wp2_with (first | ((with_reducible show wpList _ _ _ (⟨some 71, _, _, _, _, _⟩ :: _) _ _); refine wpList_app _ rfl elemB (.tmp 69) (.tmp 70) rfl rfl HO7.out rfl HR7.out.src (p + 1 + (6 + nd)) rfl (by omega) (by omega) ?_; intro A8 c8 w8 hown8 hg8 _; have HB8 := Lib.hid (HB7.out.trans (below_app HO7.out hg8 (by omega))); have HO8 := Lib.hid hown8; clear hown8 hg8) | fail)
          refine ⟨⟨j + 1, A8, p + 1 + (6 + nd), c8, by simp, by omega, rfl, hp9, ?_, ?_, HB8.out⟩, by simp only [intOf]; omega⟩
          · have h8 := HPP.out; have h9 : Sn.bytes [⟨⟨io, id, ie, ic⟩, dl⟩] = nd := by rw [HND.out]; simp [Sn.bytes]
            rw [HTK.out, bytes_append, h9]; omega
          · refine OwnB.of HO8.out _ ?_; have e6 : b1 (6 + (nd : Int)) = UInt8.ofNat (6 + dl.length) := by
              have : (6 + (nd : Int)).toNat = 6 + dl.length := by have := HND.out; omega
              rw [b1, this]
            rw [HTK.out, mssB_snoc, msB, e6]; simp [bs]
        · have hjn : j = n2 := by omega
          subst hjn; have htn : ml.take j = ml := List.take_of_length_le (by omega); have ho := HOr.out; rw [htn] at ho; have hlr := HLR.out; rw [htn] at hlr; have HOs := Lib.hid ho; have HLs := Lib.hid hlr; have a4 : wr.cell? ⟨w.heap.size, 4, none⟩ = some (.slice A3 n3 c3) := by rw [cell_of_cells G1r.out]; rfl
          have hgp := HOK.out.gaps; simp only at hgp; clear htn ho hlr HOr HLR HO5 HB5
          go_wp2_with fail
          refine (rtwo_any A' p c' B _ (n3 : Int) wr HOs.out HLs.out (by omega) hBr (by omega) (by omega)).mono ?_; rintro e6 w6 ⟨A6, c6, rfl, ho6, hb6, _⟩; have HB6 := Lib.hid (HBr.out.trans hb6); have hz6 := hb6.size; obtain ⟨PS, hPS⟩ : ∃ PS, PS = PR ++ mssB ml ++ beL [(n3 : Int)] := ⟨_, rfl⟩; have HO6 : Hid (OwnB w6 B 5 (.slice A6 (p + 2) c6) PS) := by
            show OwnB _ _ _ _ _
            rw [hPS]
            simpa [beL] using ho6
          have hpsl : PS.length = p + 2 := by rw [hPS, List.length_append, HLs.out, beL_len]; rfl
          have HPS := Lib.hid hPS; have HPSL := Lib.hid hpsl; clear ho6 hb6 hPS hpsl a3 a4 HOs HLs HBr hby
          go_wp2_with fail
          go_loopw [3, 8] (fun v i wr => ∃ (z : Nat) (A' : Option Addr) (r c' : Nat), i = .int .i64 z ∧ z ≤ n3 ∧ v = .slice A' r c' ∧ r ≤ 3000000 ∧ Hid (r = p + 2 + (7 * z + 2 * gaps (sn.take z)) ∧ OwnB wr B 5 (.slice A' r c') (PS ++ mksB (sn.take z)) ∧ Below B wb wr)) (fun _ i _ => n3 - (intOf i).toNat)
          case atStart => exact ⟨0, A6, p + 2, c6, rfl, Nat.zero_le _, rfl, by omega, by simp [gaps], by simpa [mksB] using HO6.out, HB6.out⟩
          case round =>
            obtain ⟨z, A', r, c', rfl, hz, rfl, hr2, hr, hO, hb⟩ := hrel; have HRR := Lib.hid hr; have HOr := Lib.hid hO; have HBr := Lib.hid hb; have hzr := hb.size; have hBr0 : B ≤ wr.heap.size := by have := HBB.out; omega
            have hlr : (PS ++ mksB (sn.take z)).length = r := by
              rw [List.length_append, HPSL.out, mksB_len, List.length_take, Nat.min_eq_left (by omega), hr]
            have HLR := Lib.hid hlr; have HBw := Lib.hid (HB0.out.trans (hb.mono (by omega))); have G1r := Lib.hid ((hb.block w.heap.size hwB).trans G1.out); have a4 : wr.cell? ⟨w.heap.size, 4, none⟩ = some (.slice A3 n3 c3) := by rw [cell_of_cells G1r.out]; rfl
            clear hr hO hb hlr
            by_cases hlt : z < n3
            · obtain ⟨b, off, x, cs, rfl, hBb, hbl, hx, hcs, hlen, hcell⟩ := HR.out.sn.at' hlt; obtain ⟨Ad, cd, rfl, hrd⟩ := hcs; have x0 := (cell_block (HBw.out.block b hbl) _).trans (hcell 0 _ rfl); have x1 := (cell_block (HBw.out.block b hbl) _).trans (hcell 1 _ rfl); have x2 := (cell_block (HBw.out.block b hbl) _).trans (hcell 2 _ rfl); have x3 := (cell_block (HBw.out.block b hbl) _).trans (hcell 3 _ rfl); rw [Nat.add_zero] at x0; obtain ⟨ho, he, hu, hmo, _⟩ := rightB_in (marksB_in HOK.out.mks x (List.mem_of_getElem? hx)); have htk : sn.take (z + 1) = sn.take z ++ [x] := by rw [List.take_add_one, hx]; rfl
              have hgt : gaps (sn.take (z + 1)) ≤ 256 := Nat.le_trans (gaps_take sn (z + 1)) hgp; have hge : gaps (sn.take (z + 1)) = gaps (sn.take z) + x.m.length := by rw [htk, gaps_append]; simp [gaps]
              have hmi : ∀ q ∈ x.m, 0 ≤ q ∧ q ≤ 65535 := fun q hq => by have := moreB_in hmo q hq; omega
              obtain ⟨xo, xe, xu, xm⟩ := x; simp only at x0 x1 x2 x3 ho he hu hrd hge hmi; obtain ⟨nd, hnd⟩ : ∃ nd, nd = xm.length := ⟨_, rfl⟩; rw [← hnd] at x3 hrd hge; have HRD := Lib.hid hrd; have HND := Lib.hid hnd; have HTK := Lib.hid htk; have HGE := Lib.hid hge; have HMI := Lib.hid hmi; have hr9 : r + 7 + 2 * nd ≤ 3000000 := by have := HRR.out; omega
              have hnd6 : nd ≤ 256 := by omega
              have hkb : z < 281474976710656 := by omega
              have ho0 : 0 ≤ xo := ho.1; have ho1 : xo ≤ 255 := by omega
              have he0 : 0 ≤ xe := by omega
              have he1 : xe ≤ 65535 := he.2; have hu0 : 0 ≤ xu := hu.1; have hu1 : xu ≤ 65535 := hu.2; have hn0 : (0 : Int) ≤ (nd : Int) := by omega
              have hn1 : (nd : Int) ≤ 65535 := by omega
              clear hcell hlen hx hrd hnd htk hgt hge hmi ho he hu hmo
              go_wp2_with fail
              obtain ⟨W9, hW9⟩ : ∃ W9, W9 = wr.alloc (.cells #[.int .i64 xo, .int .i64 xe, .int .i64 xu, .slice Ad nd cd] 58) := ⟨_, rfl⟩; rw [← hW9]; have hz9 : wr.heap.size < W9.heap.size := by rw [hW9]; simp
              have g9 : W9.heap[wr.heap.size]? = some (.cells #[.int .i64 xo, .int .i64 xe, .int .i64 xu, .slice Ad nd cd] 58 (0, 0)) := by rw [hW9]; exact heap_alloc_new _ _
              have hb9 : Below wr.heap.size wr W9 := by rw [hW9]; exact (Below.refl _ _).alloc (Nat.le_refl _) _
              have G9 := Lib.hid g9; have HB9 := Lib.hid hb9; have HO9 := Lib.hid (own_below HOr.out hb9); have hBr : B ≤ W9.heap.size := by omega
              have i0 : W9.cell? ⟨wr.heap.size, 0, none⟩ = some (.int .i64 xo) := by rw [cell_of_cells g9]; rfl
              have i1 : W9.cell? ⟨wr.heap.size, 1, none⟩ = some (.int .i64 xe) := by rw [cell_of_cells g9]; rfl
              have i2 : W9.cell? ⟨wr.heap.size, 2, none⟩ = some (.int .i64 xu) := by rw [cell_of_cells g9]; rfl
              have i3 : W9.cell? ⟨wr.heap.size, 3, none⟩ = some (.slice Ad nd cd) := by rw [cell_of_cells g9]; rfl
              obtain ⟨L0, hL0⟩ : ∃ L, L = PS ++ mksB (sn.take z) := ⟨_, rfl⟩; rw [← hL0] at HO9 HLR; have HL0 := Lib.hid hL0; clear hW9 g9 hb9 hL0 x0 x1 x2 x3 a4; refine Free.wp_seq4 (I := fun a L w' => CI4 (fun q => Below B W9 q ∧ q.heap[wr.heap.size]? = W9.heap[wr.heap.size]?) (fun q => OwnB q B 5 (.slice A' r c') (L0)) B 92 (r + 1) (L0 ++ [b1 xo]) 95 (r + 1 + 2) (L0 ++ [b1 xo] ++ be (xe).toNat 2) 98 (r + 1 + 2 + 2) (L0 ++ [b1 xo] ++ be (xe).toNat 2 ++ be (xu).toNat 2) 102 (r + 1 + 2 + 2 + 2) (L0 ++ [b1 xo] ++ be (xe).toNat 2 ++ be (xu).toNat 2 ++ be ((nd : Int)).toNat 2) (L 3) (L 6) (L 9) (L 13) a w') (Gr := fun j x y => CGr 3 6 9 13 j x y) (by kernel_rfl) (by kernel_rfl) ⟨⟨(Below.refl _ _).drew, rfl⟩, fun _ => own_drew HO9.out, fun e => (by cases e), fun e => (by cases e), fun e => (by cases e), fun e => (by cases e)⟩ ?_; refine Free.Seq4.val ?_ (fun _ => fun _ _ _ _ => rfl) (fun _ _ _ _ h => h.other (by decide) (by decide) (by decide) (by decide)) (fun a w1 L hI hp => ?_) ?_; rotate_left
              · have e3 := hp.sl 3; simp at e3; refine ⟨Free.wn, ?_⟩; clear hp; go_simp; rfl
              refine Free.Seq4.val ?_ (fun _ => fun _ _ _ _ => rfl) (fun _ _ _ _ h => h.other (by decide) (by decide) (by decide) (by decide)) (fun a w1 L hI hp => ?_) ?_; rotate_left
              · have e9 := hp.sl 9; simp at e9; refine ⟨Free.wn, ?_⟩; clear hp; go_simp; rfl
              refine Free.Seq4.val ?_ (fun _ => fun _ _ _ _ => rfl) (fun _ _ _ _ h => h.other (by decide) (by decide) (by decide) (by decide)) (fun a w1 L hI hp => ?_) ?_; rotate_left
              · have e90 := hp.b 1 0; have ki0 : w1.cell? ⟨wr.heap.size, 0, none⟩ = _ := (cell_block hI.c.2 0).trans i0; refine ⟨Free.wn, ?_⟩; clear hp; go_simp; rfl
              refine Free.Seq4.call (T := fun _ _ => True) (fun _ _ _ _ _ _ _ _ => trivial) (fun a w1 L hI hp => ?_) ?_
              · have e89 := hp.b 0 2; have e91 := hp.b 2 0; have hO := hI.g0 hp.fresh; have hsz := hI.c.1.size; have hup : L 6 = false := hp.up 6 40 (by kernel_rfl); have hts : 92 < a.tmps.size := by rw [hp.size]; exact Nat.lt_of_lt_of_eq (show (_ : Nat) < 118 by omega) (by kernel_rfl)
                refine ⟨Free.wn, 43, #[.slice A' (r) c', .int .i64 xo], ?_, ?_⟩
                · go_simp
                · refine (rone_any A' (r) c' B (L0) (xo) w1 hO HLR.out (by omega) (by have := hBr; omega) ho0 ho1).mono ?_; rintro e w' ⟨A', c', rfl, h1, h2, h3⟩; exact ⟨_, rfl, trivial, fun h _ _ _ => absurd rfl h, ⟨⟨hI.c.1.trans h2, (h3.block wr.heap.size (by omega) (own_ne hO (hI.c.2.trans G9.out) (by decide))).trans hI.c.2⟩, fun e => (by cases e), fun _ _ => Stg.mk hts h1, fun e _ => absurd ((show L 6 = false from hp.up 6 40 (by kernel_rfl)).symm.trans (show L 6 = true from e)) (by simp), fun e _ => absurd ((show L 9 = false from hp.up 9 40 (by kernel_rfl)).symm.trans (show L 9 = true from e)) (by simp), fun e => absurd ((show L 13 = false from hp.up 13 40 (by kernel_rfl)).symm.trans (show L 13 = true from e)) (by simp)⟩⟩
              refine Free.Seq4.val ?_ (fun _ => fun _ _ _ _ => rfl) (fun _ _ _ _ h => h.other (by decide) (by decide) (by decide) (by decide)) (fun a w1 L hI hp => ?_) ?_; rotate_left
              · have e9 := hp.sl 9; simp at e9; refine ⟨Free.wn, ?_⟩; clear hp; go_simp; rfl
              refine Free.Seq4.val ?_ (fun _ => fun _ _ _ _ => rfl) (fun _ _ _ _ h => h.other (by decide) (by decide) (by decide) (by decide)) (fun a w1 L hI hp => ?_) ?_; rotate_left
              · have e93 := hp.b 4 0; have ki1 : w1.cell? ⟨wr.heap.size, 1, none⟩ = _ := (cell_block hI.c.2 1).trans i1; refine ⟨Free.wn, ?_⟩; clear hp; go_simp; rfl
              refine Free.Seq4.call (T := fun _ _ => True) (fun _ _ _ _ _ _ _ _ => trivial) (fun a w1 L hI hp => ?_) ?_
              · have e94 := hp.b 5 0; have hd1 : L 3 = true := hp.did 3 40 (by kernel_rfl); have hf : L 6 = false := hp.fresh; obtain ⟨A0, c0, e92, hO⟩ := hI.g1 hd1 hf; have e92 : a.tmps[92]?.getD undef = .slice A0 (r + 1) c0 := by simpa using e92
                have hsz := hI.c.1.size; have hup : L 9 = false := hp.up 9 40 (by kernel_rfl); have hts : 95 < a.tmps.size := by rw [hp.size]; exact Nat.lt_of_lt_of_eq (show (_ : Nat) < 118 by omega) (by kernel_rfl)
                refine ⟨Free.wn, 42, #[.slice A0 (r + 1) c0, .int .i64 xe], ?_, ?_⟩
                · go_simp
                · refine (rtwo_any A0 (r + 1) c0 B (L0 ++ [b1 xo]) (xe) w1 hO (by rw [List.length_append, HLR.out]; rfl) (by omega) (by have := hBr; omega) he0 he1).mono ?_; rintro e w' ⟨A', c', rfl, h1, h2, h3⟩; exact ⟨_, rfl, trivial, fun _ h _ _ => absurd rfl h, ⟨⟨hI.c.1.trans h2, (h3.block wr.heap.size (by omega) (own_ne hO (hI.c.2.trans G9.out) (by decide))).trans hI.c.2⟩, fun e => absurd ((hp.did 3 40 (by kernel_rfl)).symm.trans (show L 3 = false from e)) (by simp), fun _ e => (by cases e), fun _ _ => Stg.mk hts h1, fun e _ => absurd ((show L 9 = false from hp.up 9 40 (by kernel_rfl)).symm.trans (show L 9 = true from e)) (by simp), fun e => absurd ((show L 13 = false from hp.up 13 40 (by kernel_rfl)).symm.trans (show L 13 = true from e)) (by simp)⟩⟩
              refine Free.Seq4.val ?_ (fun _ => fun _ _ _ _ => rfl) (fun _ _ _ _ h => h.other (by decide) (by decide) (by decide) (by decide)) (fun a w1 L hI hp => ?_) ?_; rotate_left
              · have e9 := hp.sl 9; simp at e9; refine ⟨Free.wn, ?_⟩; clear hp; go_simp; rfl
              refine Free.Seq4.val ?_ (fun _ => fun _ _ _ _ => rfl) (fun _ _ _ _ h => h.other (by decide) (by decide) (by decide) (by decide)) (fun a w1 L hI hp => ?_) ?_; rotate_left
              · have e96 := hp.b 7 0; have ki2 : w1.cell? ⟨wr.heap.size, 2, none⟩ = _ := (cell_block hI.c.2 2).trans i2; refine ⟨Free.wn, ?_⟩; clear hp; go_simp; rfl
              refine Free.Seq4.call (T := fun _ _ => True) (fun _ _ _ _ _ _ _ _ => trivial) (fun a w1 L hI hp => ?_) ?_
              · have e97 := hp.b 8 0; have hd2 : L 6 = true := hp.did 6 40 (by kernel_rfl); have hf : L 9 = false := hp.fresh; obtain ⟨A0, c0, e95, hO⟩ := hI.g2 hd2 hf; have e95 : a.tmps[95]?.getD undef = .slice A0 (r + 1 + 2) c0 := by simpa using e95
                have hsz := hI.c.1.size; have hup : L 13 = false := hp.up 13 40 (by kernel_rfl); have hts : 98 < a.tmps.size := by rw [hp.size]; exact Nat.lt_of_lt_of_eq (show (_ : Nat) < 118 by omega) (by kernel_rfl)
                refine ⟨Free.wn, 42, #[.slice A0 (r + 1 + 2) c0, .int .i64 xu], ?_, ?_⟩
                · go_simp
                · refine (rtwo_any A0 (r + 1 + 2) c0 B (L0 ++ [b1 xo] ++ be (xe).toNat 2) (xu) w1 hO (by rw [List.length_append, List.length_append, HLR.out]; rfl) (by omega) (by have := hBr; omega) hu0 hu1).mono ?_; rintro e w' ⟨A', c', rfl, h1, h2, h3⟩; exact ⟨_, rfl, trivial, fun _ _ h _ => absurd rfl h, ⟨⟨hI.c.1.trans h2, (h3.block wr.heap.size (by omega) (own_ne hO (hI.c.2.trans G9.out) (by decide))).trans hI.c.2⟩, fun e => absurd ((hp.did 3 40 (by kernel_rfl)).symm.trans (show L 3 = false from e)) (by simp), fun _ e => absurd ((hp.did 6 40 (by kernel_rfl)).symm.trans (show L 6 = false from e)) (by simp), fun _ e => (by cases e), fun _ _ => Stg.mk hts h1, fun e => absurd ((show L 13 = false from hp.up 13 40 (by kernel_rfl)).symm.trans (show L 13 = true from e)) (by simp)⟩⟩
              refine Free.Seq4.val ?_ (fun _ => fun _ _ _ _ => rfl) (fun _ _ _ _ h => h.other (by decide) (by decide) (by decide) (by decide)) (fun a w1 L hI hp => ?_) ?_; rotate_left
              · have e9 := hp.sl 9; simp at e9; refine ⟨Free.wn, ?_⟩; clear hp; go_simp; rfl
              refine Free.Seq4.val ?_ (fun _ => fun _ _ _ _ => rfl) (fun _ _ _ _ h => h.other (by decide) (by decide) (by decide) (by decide)) (fun a w1 L hI hp => ?_) ?_; rotate_left
              · have e99 := hp.b 10 0; have ki3 : w1.cell? ⟨wr.heap.size, 3, none⟩ = _ := (cell_block hI.c.2 3).trans i3; refine ⟨Free.wn, ?_⟩; clear hp; go_simp; rfl
              refine Free.Seq4.val ?_ (fun _ => fun _ _ _ _ => rfl) (fun _ _ _ _ h => h.other (by decide) (by decide) (by decide) (by decide)) (fun a w1 L hI hp => ?_) ?_; rotate_left
              · have e100 := hp.b 11 0; refine ⟨Free.wn, ?_⟩; clear hp; go_simp; rfl
              refine Free.Seq4.call (T := fun _ _ => True) (fun _ _ _ _ _ _ _ _ => trivial) (fun a w1 L hI hp => ?_) ?_
              · have e101 := hp.b 12 0; have hd3 : L 9 = true := hp.did 9 40 (by kernel_rfl); have hf : L 13 = false := hp.fresh; obtain ⟨A0, c0, e98, hO⟩ := hI.g3 hd3 hf; have e98 : a.tmps[98]?.getD undef = .slice A0 (r + 1 + 2 + 2) c0 := by simpa using e98
                have hsz := hI.c.1.size; have hts : 102 < a.tmps.size := by rw [hp.size]; exact Nat.lt_of_lt_of_eq (show (_ : Nat) < 118 by omega) (by kernel_rfl)
                refine ⟨Free.wn, 42, #[.slice A0 (r + 1 + 2 + 2) c0, .int .i64 (nd : Int)], ?_, ?_⟩
                · go_simp
                · refine (rtwo_any A0 (r + 1 + 2 + 2) c0 B (L0 ++ [b1 xo] ++ be (xe).toNat 2 ++ be (xu).toNat 2) ((nd : Int)) w1 hO (by rw [List.length_append, List.length_append, List.length_append, HLR.out]; rfl) (by omega) (by have := hBr; omega) hn0 hn1).mono ?_; rintro e w' ⟨A', c', rfl, h1, h2, h3⟩; exact ⟨_, rfl, trivial, fun _ _ _ h => absurd rfl h, ⟨⟨hI.c.1.trans h2, (h3.block wr.heap.size (by omega) (own_ne hO (hI.c.2.trans G9.out) (by decide))).trans hI.c.2⟩, fun e => absurd ((hp.did 3 40 (by kernel_rfl)).symm.trans (show L 3 = false from e)) (by simp), fun _ e => absurd ((hp.did 6 40 (by kernel_rfl)).symm.trans (show L 6 = false from e)) (by simp), fun _ e => absurd ((hp.did 9 40 (by kernel_rfl)).symm.trans (show L 9 = false from e)) (by simp), fun _ e => (by cases e), fun _ => Stg.mk hts h1⟩⟩
              refine Free.Seq4.op (T := fun v w' => ∃ A' c', v = .slice A' (r + 1 + 2 + 2 + 2) c' ∧ OwnB w' B 5 (.slice A' (r + 1 + 2 + 2 + 2) c') (L0 ++ [b1 xo] ++ be (xe).toNat 2 ++ be (xu).toNat 2 ++ be ((nd : Int)).toNat 2)) (fun j hj hr v x y ⟨A', c', e, h⟩ hg => ?_) (fun a w1 L hI hp => ?_) ?_
              · have e2 : y = x := hg (fun e => by have h9 := hr 40; rw [e] at h9 <;> exact absurd (h9.symm.trans (by kernel_rfl : _ = true)) (by decide)) (fun e => by have h9 := hr 40; rw [e] at h9 <;> exact absurd (h9.symm.trans (by kernel_rfl : _ = true)) (by decide)) (fun e => by have h9 := hr 40; rw [e] at h9 <;> exact absurd (h9.symm.trans (by kernel_rfl : _ = true)) (by decide)) (fun e => by have h9 := hr 40; rw [e] at h9 <;> exact absurd (h9.symm.trans (by kernel_rfl : _ = true)) (by decide)); rw [e2]; exact ⟨A', c', e, h⟩
              · skip
                obtain ⟨A0, c0, e102, hO⟩ := hI.g4 (hp.did 13 40 (by kernel_rfl)); have e102 : a.tmps[102]?.getD undef = .slice A0 (r + 1 + 2 + 2 + 2) c0 := by simpa using e102
                refine ⟨Free.wn, .slice A0 (r + 1 + 2 + 2 + 2) c0, w1, ?_, ⟨A0, c0, rfl, hO⟩, fun _ _ _ _ => rfl, hI.other (by decide) (by decide) (by decide) (by decide)⟩; clear hp; go_simp
              refine Free.Seq4.done (by simp) (fun wz L hLz => ?_); simp only [List.reverse_cons, List.reverse_nil, List.nil_append, List.cons_append, Free.All, Free.eqF, forall_eq]; rintro x92 - x95 - x98 - x102 - x3 ⟨A9, c9, rfl, ho9⟩ hIz; simp only [Free.putL, Act.put, List.setIfInBounds_toArray, List.set_cons_zero, List.set_cons_succ]
              dsimp only [Exit.inBlock, Exit.then]
              have HBz : Hid (Below B wb wz) := HBr.out.trans ((HB9.out.mono hBr0).trans hIz.c.1); have GZ := Lib.hid (hIz.c.2.trans G9.out); have hzz := hIz.c.1.size; obtain ⟨L1, hL1⟩ : ∃ L, L = L0 ++ [b1 xo] ++ be xe.toNat 2 ++ be xu.toNat 2 ++ be ((nd : Int)).toNat 2 := ⟨_, rfl⟩; rw [← hL1] at ho9; have HOz := Lib.hid ho9; have hll : L1.length = r + 7 := by rw [hL1]; simp only [List.length_append, be_len, HLR.out]; rfl
              have HLL := Lib.hid hll; have HL1 := Lib.hid hL1; clear hIz ho9 hL1 hll i0 i1 i2 i3; obtain ⟨go, hgo⟩ : ∃ g, g = wr.heap.size := ⟨_, rfl⟩; rw [← hgo] at GZ ⊢; clear G9 HB9 HO9 HOr HBr HBw G1r hzr hgo
              go_wp2_with fail
              go_loopw [3, 10] (fun v i wy => ∃ (y : Nat) (Ay : Option Addr) (q cy : Nat), i = .int .i64 y ∧ y ≤ nd ∧ v = .slice Ay q cy ∧ q ≤ 3000000 ∧ Hid (q = r + 7 + 2 * y ∧ OwnB wy B 5 (.slice Ay q cy) (L1 ++ beL (xm.take y)) ∧ wy.heap[go]? = some (.cells #[.int .i64 xo, .int .i64 xe, .int .i64 xu, .slice Ad nd cd] 58 (0, 0)) ∧ Below B wb wy)) (fun _ i _ => nd - (intOf i).toNat)
              case atStart => exact ⟨0, A9, r + 1 + 2 + 2 + 2, c9, rfl, Nat.zero_le _, rfl, by omega, by omega, by simpa [beL] using HOz.out, GZ.out, HBz.out⟩
              case round =>
                obtain ⟨y, Ay, q, cy, rfl, hy, rfl, hq3, hq, hO, hg, hb⟩ := hrel; have HQ := Lib.hid hq; have HOy := Lib.hid hO; have HGy := Lib.hid hg; have HBy := Lib.hid hb; have hzy := hb.size; have hBy : B ≤ wr.heap.size := by have := HBB.out; omega
                have hly : (L1 ++ beL (xm.take y)).length = q := by
                  rw [List.length_append, HLL.out, beL_len, List.length_take, Nat.min_eq_left (by have := HND.out; omega), hq]
                have HLY := Lib.hid hly; have HBw := Lib.hid (HB0.out.trans (hb.mono (by omega))); have hgl : go < wr.heap.size := (Array.getElem?_eq_some_iff.1 hg).1; have i3 : wr.cell? ⟨go, 3, none⟩ = some (.slice Ad nd cd) := by rw [cell_of_cells hg]; rfl
                clear hq hO hg hb hly
                by_cases hly : y < nd
                · obtain ⟨b2, o2, x2, cs2, rfl, hB2, hb2, hx2, hcs2, hlen2, hcell2⟩ := (HRD.out.below keeps_int HBw.out).at' hly; unfold EInt at hcs2; subst hcs2; have y0 := hcell2 0 _ rfl; rw [Nat.add_zero, Nat.mul_one] at y0; have hxb := HMI.out x2 (List.mem_of_getElem? hx2); have HX2 := Lib.hid hx2; have hy0 : 0 ≤ x2 := hxb.1; have hy1 : x2 ≤ 65535 := hxb.2; clear hcell2 hlen2 hx2 hxb
                  go_wp2_with fail
                  refine (rtwo_any Ay q cy B _ x2 wr HOy.out HLY.out (by omega) hBy hy0 hy1).mono ?_; rintro e3 w3 ⟨A4, c4, rfl, ho4, hb4, hg4⟩; have htk : xm.take (y + 1) = xm.take y ++ [x2] := by rw [List.take_add_one, HX2.out]; rfl
                  have HO4 : Hid (OwnB w3 B 5 (.slice A4 (q + 2) c4) (L1 ++ beL (xm.take (y + 1)))) := by
                    show OwnB _ _ _ _ _
                    rw [htk, beL_snoc, ← List.append_assoc]; exact ho4
                  have HG4 := Lib.hid ((hg4.block go hgl (own_ne HOy.out HGy.out (by decide))).trans HGy.out); have HB4 := Lib.hid (HBy.out.trans hb4); have HQ4 : Hid (q + 2 = r + 7 + 2 * (y + 1)) := by show _ = _; have := HQ.out; omega
                  have hq4 : q + 2 ≤ 3000000 := by have := HQ.out; omega
                  clear ho4 hb4 hg4 htk y0 i3
                  go_wp2_with fail
                  exact ⟨⟨y + 1, A4, q + 2, c4, by simp, by omega, rfl, hq4, HQ4.out, HO4.out, HG4.out, HB4.out⟩, by simp only [intOf]; omega⟩
                · have hyn : y = nd := by omega
                  subst hyn; have htn : xm.take y = xm := List.take_of_length_le (by have := HND.out; omega); have HO8 : Hid (OwnB wr B 5 (.slice Ay q cy) (PS ++ mksB (sn.take (z + 1)))) := by
                    show OwnB _ _ _ _ _
                    have ho := HOy.out; rw [htn, HL1.out, HL0.out] at ho; rw [HTK.out, mksB_snoc, mkB, ← HND.out]
                    simpa [beL] using ho
                  have HR9 : Hid (q = p + 2 + (7 * (z + 1) + 2 * gaps (sn.take (z + 1)))) := by
                    show _ = _
                    have h1 := HRR.out; have h2 := HGE.out; have h3 := HQ.out; omega
                  go_wp2_with fail
                  exact ⟨⟨z + 1, Ay, q, cy, by simp, by omega, rfl, hq3, HR9.out, HO8.out, HBy.out⟩, by simp only [intOf]; omega⟩
            · skip
              have hzn : z = n3 := by omega
              subst hzn; have htn : sn.take z = sn := List.take_of_length_le (by omega); have ho := HOr.out; rw [htn] at ho; have hlr := HLR.out; rw [htn] at hlr; have hbd : PS ++ mksB sn = bodyB ⟨self, ep, nx, ml, sn⟩ := by
                rw [HPS.out, HPR.out, bodyB]; simp only [hl2, hl3, List.append_assoc]
              rw [hbd] at ho hlr; have HOB := Lib.hid ho; have HLB := Lib.hid hlr; clear htn ho hlr hbd
              go_wp2_with fail
              go_ret
              exact ⟨A', r, c', rfl, HLB.out.symm, row_base6 HOB.out (by omega), HBw.out⟩
end Go.Proofs.Ytcnlgcmooegfkaa
namespace Go.Proofs.Ytcnlgcmooegfkaa
open Go.RowKit Mg Sn

set_option maxRecDepth 100000 in
set_option maxHeartbeats 4000000 in
theorem rput_st (s : St) (v : Sv) (B : Nat) (w : World) (hR : RdS w B v s) :
    Calls Try.prog 11 #[stv s v] w fun e w' => ∃ A n c, e = .returned (.tuple #[.slice A n c, .int .i64 (ck s)]) ∧ n = (ptB s).length ∧ OwnB w' w.heap.size 5 (.slice A n c) (ptB s) ∧ Below w.heap.size w w' := by
  obtain ⟨R, hRR⟩ : ∃ R, R = ck s := ⟨_, rfl⟩; have HC : Hid (∀ w' : World, Below w.heap.size w w' → Calls Try.prog 13 #[stv s v] w' fun e w'' => e = .returned (.int .i64 R) ∧ Below w'.heap.size w' w'') := fun w' h => by rw [hRR]; exact rcheck_st s v B w' (hR.below h)
  obtain ⟨BD, hBD⟩ : ∃ BD, BD = bodyB s := ⟨_, rfl⟩; obtain ⟨PB, hPB⟩ : ∃ PB, PB = ptB s := ⟨_, rfl⟩; have HBY : Hid (R = 0 → (PB = BD ++ be (Crc.sum BD) 4 ∧ BD.length ≤ 3000000) ∧ ∀ w' : World, Below w.heap.size w w' → Calls Try.prog 25 #[stv s v] w' fun e w'' => ∃ A n c, e = .returned (.slice A n c) ∧ n = BD.length ∧ OwnB w'' w'.heap.size 5 (.slice A n c) BD ∧ Below w'.heap.size w' w'') := fun h => by
    rw [hRR] at h; refine ⟨⟨by rw [hPB, ptB, if_pos h, putB, hBD], by rw [hBD]; exact Nat.le_trans (bodyB_len ((ck_ok s).1 h)) (by omega)⟩, fun w' hb => ?_⟩; rw [hBD]; exact rbody_ok s v B w' (hR.below hb) ((ck_ok s).1 h)
  have HNO : Hid (R ≠ 0 → PB = []) := fun h => by rw [hPB, ptB, if_neg (by rw [← hRR]; exact h)]
  rw [← hRR, ← hPB]; clear hR hRR hBD hPB; obtain ⟨self, ep, nx, ml, sn⟩ := s; obtain ⟨A1, n1, c1, A2, n2, c2, A3, n3, c3⟩ := v; unfold stv at HC HBY ⊢; simp only at HC HBY ⊢
  go_enter Try.func11, Try.ntmps11
  go_wp2_with fail
  have hB0 : Below w.heap.size w (w.alloc (.cells #[.int .i64 self, .int .i64 ep, .slice A1 n1 c1, .slice A2 n2 c2, .slice A3 n3 c3] 26)) := (Below.refl _ _).alloc (Nat.le_refl _) _; refine (HC.out _ hB0).mono ?_; rintro e1 w1 ⟨rfl, hb1⟩; have HB1 := Lib.hid (hB0.trans (hb1.mono (by simp))); have hz1 := hb1.size; simp at hz1; have g1 : w1.heap[w.heap.size]? = some (.cells #[.int .i64 self, .int .i64 ep, .slice A1 n1 c1, .slice A2 n2 c2, .slice A3 n3 c3] 26 (0, 0)) := (hb1.block w.heap.size (by simp)).trans (heap_alloc_new w _); have a0 : w1.cell? ⟨w.heap.size, 0, none⟩ = some (.int .i64 self) := by rw [cell_of_cells g1]; rfl
  have a1 : w1.cell? ⟨w.heap.size, 1, none⟩ = some (.int .i64 ep) := by rw [cell_of_cells g1]; rfl
  have a2 : w1.cell? ⟨w.heap.size, 2, none⟩ = some (.slice A1 n1 c1) := by rw [cell_of_cells g1]; rfl
  have a3 : w1.cell? ⟨w.heap.size, 3, none⟩ = some (.slice A2 n2 c2) := by rw [cell_of_cells g1]; rfl
  have a4 : w1.cell? ⟨w.heap.size, 4, none⟩ = some (.slice A3 n3 c3) := by rw [cell_of_cells g1]; rfl
  clear hb1 hB0 g1
  by_cases h0 : R = 0
  · subst h0; have HPB := Lib.hid (HBY.out rfl).1.1; have hbl := (HBY.out rfl).1.2; have HBC := Lib.hid (HBY.out rfl).2; clear HBY HNO HC
    go_wp2_with fail
    refine (HBC.out _ HB1.out).mono ?_; rintro e2 w2 ⟨A, n, c, rfl, hn, ho2, hb2⟩; have HO2 := Lib.hid ho2; have HB2 := Lib.hid (HB1.out.trans (hb2.mono (by omega))); have HN := Lib.hid hn; have hrd := Lib.hid (OwnB.rd ho2 hn.symm (by omega)); have hz2 := hb2.size; have hnb : n ≤ 3000000 := by omega
    clear ho2 hb2 hn a0 a1 a2 a3 a4
    go_wp2_with fail
    refine (rsum_any A n c BD w2 hrd.out).mono ?_; rintro e3 w3 ⟨rfl, rfl⟩; obtain ⟨CS, hCS⟩ : ∃ CS, CS = Crc.sum BD := ⟨_, rfl⟩; rw [← hCS]; have hcs : CS < 4294967296 := by rw [hCS, Crc.sum]; omega
    have hcw : IntKind.u64.wrap (CS : Int) = (CS : Int) := IntWalk.u64_in _ (by omega); have HCS := Lib.hid hCS; clear hCS
    go_wp2_with fail
    refine (rput4 A n c BD CS w2 hrd.out (by omega) hcs).mono ?_; rintro e4 w4 ⟨A4, c4, rfl, ho4, hb4⟩; have HO4 := Lib.hid ho4; have HB4 := Lib.hid (HB2.out.trans (hb4.mono (by omega))); clear ho4 hb4
    go_wp2_with fail
    go_ret2
    rw [HPB.out, ← HCS.out]; exact ⟨A4, n + 4, c4, rfl, by rw [List.length_append, be_len, HN.out], row_base6 HO4.out (by omega), HB4.out⟩
  · have hb : (R != 0) = true := by simpa using h0
    have HP := Lib.hid (HNO.out h0); clear HBY HNO h0
    go_wp2_with fail
    refine (HC.out _ HB1.out).mono ?_; rintro e2 w2 ⟨rfl, hb2⟩; have HB2 := Lib.hid (HB1.out.trans (hb2.mono (by omega))); clear hb2 a0 a1 a2 a3 a4
    go_wp2_with fail
    go_ret2
    rw [HP.out]; exact ⟨none, 0, 0, rfl, rfl, World.ownsRow_nil _ _ _ _, HB2.out⟩
end Go.Proofs.Ytcnlgcmooegfkaa
