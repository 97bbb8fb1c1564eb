/-
  ARE TWO STATES THE SAME? the document's walks.
  DOES THE PROGRAM ANSWER AT ALL? a state, put and got.
  SnapBack.
  SnapApart.
  SnapTurned.
-/
import Derived.Test.YtcnlgcmooegfkaaSnapMem
import Derived.Test.YtcnlgcmooegfkaaMsgSame
import Derived.Test.YtcnlgcmooegfkaaSnapFrom
import Derived.Test.YtcnlgcmooegfkaaSnapGet
import Derived.Test.YtcnlgcmooegfkaaCrcMore
namespace Go.Proofs.Ytcnlgcmooegfkaa
open Go.RowKit Mg Sn

theorem drop_same {α : Type} [DecidableEq α] {a b : List α} {k : Nat} {x y : α} (hx : a[k]? = some x) (hy : b[k]? = some y) : decide (a.drop k = b.drop k) = (decide (x = y) && decide (a.drop (k + 1) = b.drop (k + 1))) := by
  obtain ⟨h1, rfl⟩ := List.getElem?_eq_some_iff.1 hx
  obtain ⟨h2, rfl⟩ := List.getElem?_eq_some_iff.1 hy
  rw [List.drop_eq_getElem_cons h1, List.drop_eq_getElem_cons h2, Bool.eq_iff_iff]
  simp only [decide_eq_true_eq, Bool.and_eq_true, List.cons.injEq]
theorem drop_done {α : Type} [DecidableEq α] {a b : List α} {n : Nat} (ha : a.length = n) (hb : b.length = n) : decide (a.drop n = b.drop n) = true := by
  rw [List.drop_of_length_le (by omega), List.drop_of_length_le (by omega)]
  simp

set_option maxRecDepth 100000 in
set_option maxHeartbeats 4000000 in
theorem rsameall_any (la lb : List Ms) (A : Option Addr) (n c : Nat) (A' : Option Addr) (n' c' B B' : Nat) (w : World) (hA : RdE EMs 5 w B A n c la) (hB : RdE EMs 5 w B' A' n' c' lb) :
    Calls Try.prog 30 #[.slice A n c, .slice A' n' c'] w fun e w' => e = .returned (.bool (decide (la = lb))) ∧ Below w.heap.size w w' := by
  have hla := hA.len
  have hlb := hB.len
  have hbig := hA.big
  by_cases hnn : n = n'
  rotate_left
  · have hne : decide (la = lb) = false := decide_eq_false fun h => by rw [h] at hla; omega
    have t0 : ((n : Int) != (n' : Int)) = true := by simp; omega
    rw [hne]
    clear hA hB hla hlb hbig hne
    go_enter Try.func30, Try.ntmps30
    go_wp2_with fail
    go_ret
    exact ⟨rfl, Below.refl _ _⟩
  subst hnn
  obtain ⟨R, hR⟩ : ∃ R, R = decide (la = lb) := ⟨_, rfl⟩
  rw [← hR]
  have H0 : Hid (R = decide (la.drop 0 = lb.drop 0)) := by show R = _; rw [hR, List.drop_zero, List.drop_zero]
  have HA := Lib.hid hA
  have HB := Lib.hid hB
  have HLA := Lib.hid hla
  have HLB := Lib.hid hlb
  clear hA hB hla hlb hR
  go_enter Try.func30, Try.ntmps30
  go_wp2_with fail
  go_loopw [5] (fun i wr => ∃ k : Nat, i = .int .i64 k ∧ k ≤ n ∧ Hid (R = decide (la.drop k = lb.drop k) ∧ Below w.heap.size w wr)) (fun i _ => n - (intOf i).toNat)
  case atStart => exact ⟨0, rfl, Nat.zero_le _, H0.out, Below.refl _ _⟩
  case round =>
    obtain ⟨k, rfl, hk, hq, hb⟩ := hrel
    have HQ := Lib.hid hq
    have HB0 := Lib.hid hb
    clear hq hb
    by_cases hlt : k < n
    · obtain ⟨b, off, x, cs, rfl, hBb, hbl, hx, hcs, hlen, hcell⟩ := (HA.out.below keeps_ms HB0.out).at' hlt
      obtain ⟨Ax, cx, rfl, hrx⟩ := hcs
      have c0 := hcell 0 _ rfl
      have c1 := hcell 1 _ rfl
      have c2 := hcell 2 _ rfl
      have c3 := hcell 3 _ rfl
      have c4 := hcell 4 _ rfl
      rw [Nat.add_zero] at c0
      obtain ⟨b', off', y, cs', rfl, hBb', hbl', hy, hcs', hlen', hcell'⟩ := (HB.out.below keeps_ms HB0.out).at' hlt
      obtain ⟨Ay, cy, rfl, hry⟩ := hcs'
      have d0 := hcell' 0 _ rfl
      have d1 := hcell' 1 _ rfl
      have d2 := hcell' 2 _ rfl
      have d3 := hcell' 3 _ rfl
      have d4 := hcell' 4 _ rfl
      rw [Nat.add_zero] at d0
      rw [drop_same hx hy] at HQ
      obtain ⟨⟨xo, xd, xe, xc⟩, xl⟩ := x
      obtain ⟨⟨yo, yd, ye, yc⟩, yl⟩ := y
      simp only at c0 c1 c2 c3 c4 d0 d1 d2 d3 d4
      obtain ⟨BB, hBB⟩ : ∃ BB, BB = decide ((⟨⟨xo, xd, xe, xc⟩, xl⟩ : Ms) = ⟨⟨yo, yd, ye, yc⟩, yl⟩) := ⟨_, rfl⟩
      have HCS : Hid (∀ w' : World, Below wr.heap.size wr w' → Calls Try.prog 56 #[.agg #[.int .i64 xo, .int .i64 xd, .int .i64 xe, .int .i64 xc, .slice Ax xl.length cx], .agg #[.int .i64 yo, .int .i64 yd, .int .i64 ye, .int .i64 yc, .slice Ay yl.length cy]] w' fun e w'' => e = .returned (.bool BB) ∧ Below w'.heap.size w' w'') := fun w' h => by
        have h1 := rsame_any ⟨xo, xd, xe, xc⟩ ⟨yo, yd, ye, yc⟩ Ax Ay xl.length yl.length cx cy xl yl w' (hrx.1.below h) (hry.1.below h)
        have e1 : (decide ((⟨xo, xd, xe, xc⟩ : Mid) = ⟨yo, yd, ye, yc⟩) && (xl == yl)) = BB := by
          rw [hBB, Bool.eq_iff_iff]
          simp
        rw [e1] at h1
        exact h1
      rw [← hBB] at HQ
      obtain ⟨nx, hnx⟩ : ∃ nx, nx = xl.length := ⟨_, rfl⟩
      obtain ⟨ny, hny⟩ : ∃ ny, ny = yl.length := ⟨_, rfl⟩
      rw [← hnx] at c4 HCS
      rw [← hny] at d4 HCS
      have hkb : k < 281474976710656 := by omega
      clear hcell hcell' hlen hlen' hx hy hrx hry hBB hnx hny
      go_wp2_with fail
      refine Free.wp_seq (I := fun w' => Below wr.heap.size wr w') (Gr := fun w1 w2 => Below w1.heap.size w1 w2) (by kernel_rfl) (by kernel_rfl) (Below.refl _ _).drew ?_
      refine Free.Seq.val ?_ (fun _ => Below.refl _ _) (fun a w1 hI hp => ?_) ?_
      rotate_left
      · have e0 := hp.slotV 0 (by kernel_rfl) rfl; simp at e0
        refine ⟨Free.want_none rfl, ?_⟩
        clear hp
        go_simp
        rfl
      refine Free.Seq.val ?_ (fun _ => Below.refl _ _) (fun a w1 hI hp => ?_) ?_
      rotate_left
      · have e5 := hp.slotV 5 (by kernel_rfl) rfl; simp at e5
        refine ⟨Free.want_none rfl, ?_⟩
        clear hp
        go_simp
        rfl
      refine Free.Seq.val ?_ (fun _ => Below.refl _ _) (fun a w1 hI hp => ?_) ?_
      rotate_left
      · have e17 := hp.backV 0 1 rfl rfl rfl rfl rfl; have e18 := hp.backV 1 0 rfl rfl rfl rfl rfl
        refine ⟨Free.want_none rfl, ?_⟩
        clear hp
        go_simp
        rfl
      refine Free.Seq.val ?_ (fun _ => Below.refl _ _) (fun a w1 hI hp => ?_) ?_
      rotate_left
      · have e19 := hp.backV 2 0 rfl rfl rfl rfl rfl
        have kc0 := (hI.cell (p := ⟨b, off + k * 5, none⟩) hbl).trans c0
        have kc1 := (hI.cell (p := ⟨b, off + k * 5 + 1, none⟩) hbl).trans c1
        have kc2 := (hI.cell (p := ⟨b, off + k * 5 + 2, none⟩) hbl).trans c2
        have kc3 := (hI.cell (p := ⟨b, off + k * 5 + 3, none⟩) hbl).trans c3
        have kc4 := (hI.cell (p := ⟨b, off + k * 5 + 4, none⟩) hbl).trans c4
        refine ⟨Free.want_none rfl, ?_⟩
        clear hp
        go_simp
        rfl
      refine Free.Seq.val ?_ (fun _ => Below.refl _ _) (fun a w1 hI hp => ?_) ?_
      rotate_left
      · have e1 := hp.slotV 1 (by kernel_rfl) rfl; simp at e1
        refine ⟨Free.want_none rfl, ?_⟩
        clear hp
        go_simp
        rfl
      refine Free.Seq.val ?_ (fun _ => Below.refl _ _) (fun a w1 hI hp => ?_) ?_
      rotate_left
      · have e5 := hp.slotV 5 (by kernel_rfl) rfl; simp at e5
        refine ⟨Free.want_none rfl, ?_⟩
        clear hp
        go_simp
        rfl
      refine Free.Seq.val ?_ (fun _ => Below.refl _ _) (fun a w1 hI hp => ?_) ?_
      rotate_left
      · have e21 := hp.backV 4 1 rfl rfl rfl rfl rfl; have e22 := hp.backV 5 0 rfl rfl rfl rfl rfl
        refine ⟨Free.want_none rfl, ?_⟩
        clear hp
        go_simp
        rfl
      refine Free.Seq.val ?_ (fun _ => Below.refl _ _) (fun a w1 hI hp => ?_) ?_
      rotate_left
      · have e23 := hp.backV 6 0 rfl rfl rfl rfl rfl
        have kd0 := (hI.cell (p := ⟨b', off' + k * 5, none⟩) hbl').trans d0
        have kd1 := (hI.cell (p := ⟨b', off' + k * 5 + 1, none⟩) hbl').trans d1
        have kd2 := (hI.cell (p := ⟨b', off' + k * 5 + 2, none⟩) hbl').trans d2
        have kd3 := (hI.cell (p := ⟨b', off' + k * 5 + 3, none⟩) hbl').trans d3
        have kd4 := (hI.cell (p := ⟨b', off' + k * 5 + 4, none⟩) hbl').trans d4
        refine ⟨Free.want_none rfl, ?_⟩
        clear hp
        go_simp
        rfl
      refine Free.Seq.call (T := Free.eqF (.bool BB)) (fun _ _ _ h _ => h) (fun a w1 hI hp => ?_) ?_
      · have e20 := hp.backV 3 4 rfl rfl rfl rfl rfl; have e24 := hp.backV 7 0 rfl rfl rfl rfl rfl
        refine ⟨Free.want_none rfl, 56, #[.agg #[.int .i64 xo, .int .i64 xd, .int .i64 xe, .int .i64 xc, .slice Ax nx cx], .agg #[.int .i64 yo, .int .i64 yd, .int .i64 ye, .int .i64 yc, .slice Ay ny cy]], ?_, ?_⟩
        · clear hp
          go_simp
        · refine (HCS.out _ hI).mono ?_
          rintro e w' ⟨rfl, hb⟩
          exact ⟨_, rfl, rfl, hb, hI.trans (hb.mono hI.size)⟩
      refine Free.Seq.val ?_ (fun _ => Below.refl _ _) (fun a w1 hI hp => ?_) ?_
      rotate_left
      · have e25 := hp.backV 8 0 rfl rfl rfl rfl rfl
        refine ⟨Free.want_none rfl, ?_⟩
        clear hp
        go_simp
        rfl
      refine Free.Seq.done (by simp) (fun wz hIz => ?_)
      simp only [List.reverse_cons, List.reverse_nil, List.nil_append, List.cons_append, Free.All, Free.eqF, forall_eq]
      skip
      simp only [Free.putL, Act.put, List.setIfInBounds_toArray, List.set_cons_zero, List.set_cons_succ]
      have HIZ := Lib.hid hIz
      clear hIz
      dsimp only [Exit.inBlock, Exit.then]
      have HBZ := Lib.hid (HB0.out.trans (HIZ.out.mono HB0.out.size))
      clear c0 c1 c2 c3 c4 d0 d1 d2 d3 d4
      cases BB
      · go_wp2_with fail
        go_ret
        exact ⟨ret_bool (by rw [HQ.out]; rfl), HBZ.out⟩
      · go_wp2_with fail
        exact ⟨⟨k + 1, by simp, by omega, by rw [HQ.out]; rfl, HBZ.out⟩, by simp only [intOf]; omega⟩
    · have hk2 : k = n := by omega
      subst hk2
      go_wp2_with fail
      go_ret
      exact ⟨ret_bool (by rw [HQ.out]; exact (drop_done HLA.out HLB.out).symm), HB0.out⟩
set_option maxRecDepth 100000 in
set_option maxHeartbeats 8000000 in
theorem rsamemarks_any (la lb : List Mk) (A : Option Addr) (n c : Nat) (A' : Option Addr) (n' c' B B' : Nat) (w : World) (hA : RdE EMk 4 w B A n c la) (hB : RdE EMk 4 w B' A' n' c' lb) :
    Calls Try.prog 31 #[.slice A n c, .slice A' n' c'] w fun e w' => e = .returned (.bool (decide (la = lb))) ∧ Below w.heap.size w w' := by
  have hla := hA.len
  have hlb := hB.len
  have hbig := hA.big
  by_cases hnn : n = n'
  rotate_left
  · have hne : decide (la = lb) = false := decide_eq_false fun h => by rw [h] at hla; omega
    have t0 : ((n : Int) != (n' : Int)) = true := by simp; omega
    rw [hne]
    clear hA hB hla hlb hbig hne
    go_enter Try.func31, Try.ntmps31
    go_wp2_with fail
    go_ret
    exact ⟨rfl, Below.refl _ _⟩
  subst hnn
  obtain ⟨R, hR⟩ : ∃ R, R = decide (la = lb) := ⟨_, rfl⟩
  rw [← hR]
  have H0 : Hid (R = decide (la.drop 0 = lb.drop 0)) := by show R = _; rw [hR, List.drop_zero, List.drop_zero]
  have HA := Lib.hid hA
  have HB := Lib.hid hB
  have HLA := Lib.hid hla
  have HLB := Lib.hid hlb
  clear hA hB hla hlb hR
  go_enter Try.func31, Try.ntmps31
  go_wp2_with fail
  go_loopw [5] (fun i wr => ∃ k : Nat, i = .int .i64 k ∧ k ≤ n ∧ Hid (R = decide (la.drop k = lb.drop k) ∧ Below w.heap.size w wr)) (fun i _ => n - (intOf i).toNat)
  case atStart => exact ⟨0, rfl, Nat.zero_le _, H0.out, Below.refl _ _⟩
  case round =>
    obtain ⟨k, rfl, hk, hq, hb⟩ := hrel
    have HQ := Lib.hid hq
    have HB0 := Lib.hid hb
    clear hq hb
    by_cases hlt : k < n
    · obtain ⟨b, off, x, cs, rfl, hBb, hbl, hx, hcs, hlen, hcell⟩ := (HA.out.below keeps_mk HB0.out).at' hlt
      obtain ⟨Ax, cx, rfl, hrx⟩ := hcs
      have c0 := hcell 0 _ rfl
      have c1 := hcell 1 _ rfl
      have c2 := hcell 2 _ rfl
      have c3 := hcell 3 _ rfl
      rw [Nat.add_zero] at c0
      obtain ⟨b', off', y, cs', rfl, hBb', hbl', hy, hcs', hlen', hcell'⟩ := (HB.out.below keeps_mk HB0.out).at' hlt
      obtain ⟨Ay, cy, rfl, hry⟩ := hcs'
      have d0 := hcell' 0 _ rfl
      have d1 := hcell' 1 _ rfl
      have d2 := hcell' 2 _ rfl
      have d3 := hcell' 3 _ rfl
      rw [Nat.add_zero] at d0
      rw [drop_same hx hy] at HQ
      obtain ⟨xo, xe, xu, xm⟩ := x
      obtain ⟨yo, ye, yu, ym⟩ := y
      simp only at c0 c1 c2 c3 d0 d1 d2 d3
      have hbx := hrx.big
      simp only at hrx hry hbx
      obtain ⟨nx, hnx⟩ : ∃ nx, nx = xm.length := ⟨_, rfl⟩
      obtain ⟨ny, hny⟩ : ∃ ny, ny = ym.length := ⟨_, rfl⟩
      rw [← hnx] at c3 hrx hbx
      rw [← hny] at d3 hry
      have HRX := Lib.hid hrx
      have HRY := Lib.hid hry
      have HNX := Lib.hid hnx
      have HNY := Lib.hid hny
      have hkb : k < 281474976710656 := by omega
      have hne : (xo ≠ yo ∨ xe ≠ ye ∨ xu ≠ yu ∨ nx ≠ ny) → Hid (R = false) := fun h => by
        have e1 : decide ((⟨xo, xe, xu, xm⟩ : Mk) = ⟨yo, ye, yu, ym⟩) = false := decide_eq_false fun e => by
          injection e with e1 e2 e3 e4
          rw [e4, ← HNY.out] at hnx
          rcases h with h | h | h | h
          · exact h e1
          · exact h e2
          · exact h e3
          · exact h hnx
        show R = false
        rw [HQ.out, e1, Bool.false_and]
      clear hcell hcell' hlen hlen' hx hy hrx hry hnx hny
      by_cases ho : xo = yo
      rotate_left
      · have HN := hne (.inl ho)
        have t0 : (xo != yo) = true := by simpa using ho
        clear hne
        go_wp2_with fail
        refine Free.wp_seq (I := fun w' => Below wr.heap.size wr w') (Gr := fun w1 w2 => Below w1.heap.size w1 w2) (by kernel_rfl) (by kernel_rfl) (Below.refl _ _).drew ?_
        refine Free.Seq.val ?_ (fun _ => Below.refl _ _) (fun a w1 hI hp => ?_) ?_
        rotate_left
        · have e0 := hp.slotV 0 (by kernel_rfl) rfl; simp at e0
          refine ⟨Free.want_none rfl, ?_⟩
          clear hp
          go_simp
          rfl
        refine Free.Seq.val ?_ (fun _ => Below.refl _ _) (fun a w1 hI hp => ?_) ?_
        rotate_left
        · have e5 := hp.slotV 5 (by kernel_rfl) rfl; simp at e5
          refine ⟨Free.want_none rfl, ?_⟩
          clear hp
          go_simp
          rfl
        refine Free.Seq.val ?_ (fun _ => Below.refl _ _) (fun a w1 hI hp => ?_) ?_
        rotate_left
        · have e18 := hp.backV 0 1 rfl rfl rfl rfl rfl; have e19 := hp.backV 1 0 rfl rfl rfl rfl rfl
          refine ⟨Free.want_none rfl, ?_⟩
          clear hp
          go_simp
          rfl
        refine Free.Seq.val ?_ (fun _ => Below.refl _ _) (fun a w1 hI hp => ?_) ?_
        rotate_left
        · have e20 := hp.backV 2 0 rfl rfl rfl rfl rfl
          refine ⟨Free.want_none rfl, ?_⟩
          clear hp
          go_simp
          rfl
        refine Free.Seq.val ?_ (fun _ => Below.refl _ _) (fun a w1 hI hp => ?_) ?_
        rotate_left
        · have e21 := hp.backV 3 0 rfl rfl rfl rfl rfl
          have kc0 := (hI.cell (p := ⟨b, off + k * 4, none⟩) hbl).trans c0
          refine ⟨Free.want_none rfl, ?_⟩
          clear hp
          go_simp
          rfl
        refine Free.Seq.val ?_ (fun _ => Below.refl _ _) (fun a w1 hI hp => ?_) ?_
        rotate_left
        · have e1 := hp.slotV 1 (by kernel_rfl) rfl; simp at e1
          refine ⟨Free.want_none rfl, ?_⟩
          clear hp
          go_simp
          rfl
        refine Free.Seq.val ?_ (fun _ => Below.refl _ _) (fun a w1 hI hp => ?_) ?_
        rotate_left
        · have e5 := hp.slotV 5 (by kernel_rfl) rfl; simp at e5
          refine ⟨Free.want_none rfl, ?_⟩
          clear hp
          go_simp
          rfl
        refine Free.Seq.val ?_ (fun _ => Below.refl _ _) (fun a w1 hI hp => ?_) ?_
        rotate_left
        · have e23 := hp.backV 5 1 rfl rfl rfl rfl rfl; have e24 := hp.backV 6 0 rfl rfl rfl rfl rfl
          refine ⟨Free.want_none rfl, ?_⟩
          clear hp
          go_simp
          rfl
        refine Free.Seq.val ?_ (fun _ => Below.refl _ _) (fun a w1 hI hp => ?_) ?_
        rotate_left
        · have e25 := hp.backV 7 0 rfl rfl rfl rfl rfl
          refine ⟨Free.want_none rfl, ?_⟩
          clear hp
          go_simp
          rfl
        refine Free.Seq.val ?_ (fun _ => Below.refl _ _) (fun a w1 hI hp => ?_) ?_
        rotate_left
        · have e26 := hp.backV 8 0 rfl rfl rfl rfl rfl
          have kd0 := (hI.cell (p := ⟨b', off' + k * 4, none⟩) hbl').trans d0
          refine ⟨Free.want_none rfl, ?_⟩
          clear hp
          go_simp
          rfl
        refine Free.Seq.val ?_ (fun _ => Below.refl _ _) (fun a w1 hI hp => ?_) ?_
        rotate_left
        · have e22 := hp.backV 4 5 rfl rfl rfl rfl rfl; have e27 := hp.backV 9 0 rfl rfl rfl rfl rfl
          refine ⟨Free.want_none rfl, ?_⟩
          clear hp
          go_simp
          rfl
        refine Free.Seq.val ?_ (fun _ => Below.refl _ _) (fun a w1 hI hp => ?_) ?_
        rotate_left
        · have e28 := hp.backV 10 0 rfl rfl rfl rfl rfl
          refine ⟨Free.want_none rfl, ?_⟩
          clear hp
          go_simp
          rfl
        refine Free.Seq.pass (fun a w1 hI hp => hp.pass rfl rfl rfl (hp.backV 11 0 rfl rfl rfl rfl rfl)) ?_
        refine Free.Seq.pass (fun a w1 hI hp => hp.pass rfl rfl rfl (hp.backV 11 1 rfl rfl rfl rfl rfl)) ?_
        refine Free.Seq.pass (fun a w1 hI hp => hp.pass rfl rfl rfl (hp.backV 11 2 rfl rfl rfl rfl rfl)) ?_
        refine Free.Seq.pass (fun a w1 hI hp => hp.pass rfl rfl rfl (hp.backV 11 3 rfl rfl rfl rfl rfl)) ?_
        refine Free.Seq.pass (fun a w1 hI hp => hp.pass rfl rfl rfl (hp.backV 11 4 rfl rfl rfl rfl rfl)) ?_
        refine Free.Seq.pass (fun a w1 hI hp => hp.pass rfl rfl rfl (hp.backV 11 5 rfl rfl rfl rfl rfl)) ?_
        refine Free.Seq.pass (fun a w1 hI hp => hp.pass rfl rfl rfl (hp.backV 11 6 rfl rfl rfl rfl rfl)) ?_
        refine Free.Seq.pass (fun a w1 hI hp => hp.pass rfl rfl rfl (hp.backV 11 7 rfl rfl rfl rfl rfl)) ?_
        refine Free.Seq.pass (fun a w1 hI hp => hp.pass rfl rfl rfl (hp.backV 11 8 rfl rfl rfl rfl rfl)) ?_
        refine Free.Seq.pass (fun a w1 hI hp => hp.pass rfl rfl rfl (hp.backV 11 9 rfl rfl rfl rfl rfl)) ?_
        refine Free.Seq.pass (fun a w1 hI hp => hp.pass rfl rfl rfl (hp.backV 11 10 rfl rfl rfl rfl rfl)) ?_
        refine Free.Seq.val ?_ (fun _ => Below.refl _ _) (fun a w1 hI hp => ?_) ?_
        rotate_left
        · have e29 := hp.backV 11 11 rfl rfl rfl rfl rfl; have e40 := hp.backV 22 0 rfl rfl rfl rfl rfl
          refine ⟨Free.want_none rfl, ?_⟩
          clear hp
          go_simp
          rfl
        refine Free.Seq.val ?_ (fun _ => Below.refl _ _) (fun a w1 hI hp => ?_) ?_
        rotate_left
        · have e41 := hp.backV 23 0 rfl rfl rfl rfl rfl
          refine ⟨Free.want_none rfl, ?_⟩
          clear hp
          go_simp
          rfl
        refine Free.Seq.pass (fun a w1 hI hp => hp.pass rfl rfl rfl (hp.backV 24 0 rfl rfl rfl rfl rfl)) ?_
        refine Free.Seq.pass (fun a w1 hI hp => hp.pass rfl rfl rfl (hp.backV 24 1 rfl rfl rfl rfl rfl)) ?_
        refine Free.Seq.pass (fun a w1 hI hp => hp.pass rfl rfl rfl (hp.backV 24 2 rfl rfl rfl rfl rfl)) ?_
        refine Free.Seq.pass (fun a w1 hI hp => hp.pass rfl rfl rfl (hp.backV 24 3 rfl rfl rfl rfl rfl)) ?_
        refine Free.Seq.pass (fun a w1 hI hp => hp.pass rfl rfl rfl (hp.backV 24 4 rfl rfl rfl rfl rfl)) ?_
        refine Free.Seq.pass (fun a w1 hI hp => hp.pass rfl rfl rfl (hp.backV 24 5 rfl rfl rfl rfl rfl)) ?_
        refine Free.Seq.pass (fun a w1 hI hp => hp.pass rfl rfl rfl (hp.backV 24 6 rfl rfl rfl rfl rfl)) ?_
        refine Free.Seq.pass (fun a w1 hI hp => hp.pass rfl rfl rfl (hp.backV 24 7 rfl rfl rfl rfl rfl)) ?_
        refine Free.Seq.pass (fun a w1 hI hp => hp.pass rfl rfl rfl (hp.backV 24 8 rfl rfl rfl rfl rfl)) ?_
        refine Free.Seq.pass (fun a w1 hI hp => hp.pass rfl rfl rfl (hp.backV 24 9 rfl rfl rfl rfl rfl)) ?_
        refine Free.Seq.pass (fun a w1 hI hp => hp.pass rfl rfl rfl (hp.backV 24 10 rfl rfl rfl rfl rfl)) ?_
        refine Free.Seq.val ?_ (fun _ => Below.refl _ _) (fun a w1 hI hp => ?_) ?_
        rotate_left
        · have e42 := hp.backV 24 11 rfl rfl rfl rfl rfl; have e53 := hp.backV 35 0 rfl rfl rfl rfl rfl
          refine ⟨Free.want_none rfl, ?_⟩
          clear hp
          go_simp
          rfl
        refine Free.Seq.val ?_ (fun _ => Below.refl _ _) (fun a w1 hI hp => ?_) ?_
        rotate_left
        · have e54 := hp.backV 36 0 rfl rfl rfl rfl rfl
          refine ⟨Free.want_none rfl, ?_⟩
          clear hp
          go_simp
          rfl
        refine Free.Seq.pass (fun a w1 hI hp => hp.pass rfl rfl rfl (hp.backV 37 0 rfl rfl rfl rfl rfl)) ?_
        refine Free.Seq.pass (fun a w1 hI hp => hp.pass rfl rfl rfl (hp.backV 37 1 rfl rfl rfl rfl rfl)) ?_
        refine Free.Seq.pass (fun a w1 hI hp => hp.pass rfl rfl rfl (hp.backV 37 2 rfl rfl rfl rfl rfl)) ?_
        refine Free.Seq.pass (fun a w1 hI hp => hp.pass rfl rfl rfl (hp.backV 37 3 rfl rfl rfl rfl rfl)) ?_
        refine Free.Seq.pass (fun a w1 hI hp => hp.pass rfl rfl rfl (hp.backV 37 4 rfl rfl rfl rfl rfl)) ?_
        refine Free.Seq.pass (fun a w1 hI hp => hp.pass rfl rfl rfl (hp.backV 37 5 rfl rfl rfl rfl rfl)) ?_
        refine Free.Seq.pass (fun a w1 hI hp => hp.pass rfl rfl rfl (hp.backV 37 6 rfl rfl rfl rfl rfl)) ?_
        refine Free.Seq.pass (fun a w1 hI hp => hp.pass rfl rfl rfl (hp.backV 37 7 rfl rfl rfl rfl rfl)) ?_
        refine Free.Seq.pass (fun a w1 hI hp => hp.pass rfl rfl rfl (hp.backV 37 8 rfl rfl rfl rfl rfl)) ?_
        refine Free.Seq.pass (fun a w1 hI hp => hp.pass rfl rfl rfl (hp.backV 37 9 rfl rfl rfl rfl rfl)) ?_
        refine Free.Seq.pass (fun a w1 hI hp => hp.pass rfl rfl rfl (hp.backV 37 10 rfl rfl rfl rfl rfl)) ?_
        refine Free.Seq.pass (fun a w1 hI hp => hp.pass rfl rfl rfl (hp.backV 37 11 rfl rfl rfl rfl rfl)) ?_
        refine Free.Seq.pass (fun a w1 hI hp => hp.pass rfl rfl rfl (hp.backV 37 12 rfl rfl rfl rfl rfl)) ?_
        refine Free.Seq.val ?_ (fun _ => Below.refl _ _) (fun a w1 hI hp => ?_) ?_
        rotate_left
        · have e55 := hp.backV 37 13 rfl rfl rfl rfl rfl; have e68 := hp.backV 50 0 rfl rfl rfl rfl rfl
          refine ⟨Free.want_none rfl, ?_⟩
          clear hp
          go_simp
          rfl
        refine Free.Seq.done (by simp) (fun wz hIz => ?_)
        simp only [List.reverse_cons, List.reverse_nil, List.nil_append, List.cons_append, Free.All, Free.eqF, forall_eq]
        skip
        simp only [Free.putL, Act.put, List.setIfInBounds_toArray, List.set_cons_zero, List.set_cons_succ]
        have HBZ := Lib.hid (HB0.out.trans (hIz.mono HB0.out.size))
        clear hIz
        dsimp only [Exit.inBlock, Exit.then]
        go_wp2_with fail
        go_ret
        exact ⟨ret_bool (by rw [HN.out]), HBZ.out⟩
      have t0 : (xo != yo) = false := by simpa using ho
      by_cases he : xe = ye
      rotate_left
      · have HN := hne (.inr (.inl he))
        have t1 : (xe != ye) = true := by simpa using he
        clear hne ho
        go_wp2_with fail
        refine Free.wp_seq (I := fun w' => Below wr.heap.size wr w') (Gr := fun w1 w2 => Below w1.heap.size w1 w2) (by kernel_rfl) (by kernel_rfl) (Below.refl _ _).drew ?_
        refine Free.Seq.val ?_ (fun _ => Below.refl _ _) (fun a w1 hI hp => ?_) ?_
        rotate_left
        · have e0 := hp.slotV 0 (by kernel_rfl) rfl; simp at e0
          refine ⟨Free.want_none rfl, ?_⟩
          clear hp
          go_simp
          rfl
        refine Free.Seq.val ?_ (fun _ => Below.refl _ _) (fun a w1 hI hp => ?_) ?_
        rotate_left
        · have e5 := hp.slotV 5 (by kernel_rfl) rfl; simp at e5
          refine ⟨Free.want_none rfl, ?_⟩
          clear hp
          go_simp
          rfl
        refine Free.Seq.val ?_ (fun _ => Below.refl _ _) (fun a w1 hI hp => ?_) ?_
        rotate_left
        · have e18 := hp.backV 0 1 rfl rfl rfl rfl rfl; have e19 := hp.backV 1 0 rfl rfl rfl rfl rfl
          refine ⟨Free.want_none rfl, ?_⟩
          clear hp
          go_simp
          rfl
        refine Free.Seq.val ?_ (fun _ => Below.refl _ _) (fun a w1 hI hp => ?_) ?_
        rotate_left
        · have e20 := hp.backV 2 0 rfl rfl rfl rfl rfl
          refine ⟨Free.want_none rfl, ?_⟩
          clear hp
          go_simp
          rfl
        refine Free.Seq.val ?_ (fun _ => Below.refl _ _) (fun a w1 hI hp => ?_) ?_
        rotate_left
        · have e21 := hp.backV 3 0 rfl rfl rfl rfl rfl
          have kc0 := (hI.cell (p := ⟨b, off + k * 4, none⟩) hbl).trans c0
          refine ⟨Free.want_none rfl, ?_⟩
          clear hp
          go_simp
          rfl
        refine Free.Seq.val ?_ (fun _ => Below.refl _ _) (fun a w1 hI hp => ?_) ?_
        rotate_left
        · have e1 := hp.slotV 1 (by kernel_rfl) rfl; simp at e1
          refine ⟨Free.want_none rfl, ?_⟩
          clear hp
          go_simp
          rfl
        refine Free.Seq.val ?_ (fun _ => Below.refl _ _) (fun a w1 hI hp => ?_) ?_
        rotate_left
        · have e5 := hp.slotV 5 (by kernel_rfl) rfl; simp at e5
          refine ⟨Free.want_none rfl, ?_⟩
          clear hp
          go_simp
          rfl
        refine Free.Seq.val ?_ (fun _ => Below.refl _ _) (fun a w1 hI hp => ?_) ?_
        rotate_left
        · have e23 := hp.backV 5 1 rfl rfl rfl rfl rfl; have e24 := hp.backV 6 0 rfl rfl rfl rfl rfl
          refine ⟨Free.want_none rfl, ?_⟩
          clear hp
          go_simp
          rfl
        refine Free.Seq.val ?_ (fun _ => Below.refl _ _) (fun a w1 hI hp => ?_) ?_
        rotate_left
        · have e25 := hp.backV 7 0 rfl rfl rfl rfl rfl
          refine ⟨Free.want_none rfl, ?_⟩
          clear hp
          go_simp
          rfl
        refine Free.Seq.val ?_ (fun _ => Below.refl _ _) (fun a w1 hI hp => ?_) ?_
        rotate_left
        · have e26 := hp.backV 8 0 rfl rfl rfl rfl rfl
          have kd0 := (hI.cell (p := ⟨b', off' + k * 4, none⟩) hbl').trans d0
          refine ⟨Free.want_none rfl, ?_⟩
          clear hp
          go_simp
          rfl
        refine Free.Seq.val ?_ (fun _ => Below.refl _ _) (fun a w1 hI hp => ?_) ?_
        rotate_left
        · have e22 := hp.backV 4 5 rfl rfl rfl rfl rfl; have e27 := hp.backV 9 0 rfl rfl rfl rfl rfl
          refine ⟨Free.want_none rfl, ?_⟩
          clear hp
          go_simp
          rfl
        refine Free.Seq.val ?_ (fun _ => Below.refl _ _) (fun a w1 hI hp => ?_) ?_
        rotate_left
        · have e28 := hp.backV 10 0 rfl rfl rfl rfl rfl
          refine ⟨Free.want_none rfl, ?_⟩
          clear hp
          go_simp
          rfl
        refine Free.Seq.val ?_ (fun _ => Below.refl _ _) (fun a w1 hI hp => ?_) ?_
        rotate_left
        · have e29 := hp.backV 11 0 rfl rfl rfl rfl rfl; have e0 := hp.slotV 0 (by kernel_rfl) rfl; simp at e0
          refine ⟨hp.want rfl rfl rfl e29, ?_⟩
          clear hp
          go_simp
          rfl
        refine Free.Seq.val ?_ (fun _ => Below.refl _ _) (fun a w1 hI hp => ?_) ?_
        rotate_left
        · have e29 := hp.backV 11 1 rfl rfl rfl rfl rfl; have e5 := hp.slotV 5 (by kernel_rfl) rfl; simp at e5
          refine ⟨hp.want rfl rfl rfl e29, ?_⟩
          clear hp
          go_simp
          rfl
        refine Free.Seq.val ?_ (fun _ => Below.refl _ _) (fun a w1 hI hp => ?_) ?_
        rotate_left
        · have e29 := hp.backV 11 2 rfl rfl rfl rfl rfl; have e30 := hp.backV 12 1 rfl rfl rfl rfl rfl; have e31 := hp.backV 13 0 rfl rfl rfl rfl rfl
          refine ⟨hp.want rfl rfl rfl e29, ?_⟩
          clear hp
          go_simp
          rfl
        refine Free.Seq.val ?_ (fun _ => Below.refl _ _) (fun a w1 hI hp => ?_) ?_
        rotate_left
        · have e29 := hp.backV 11 3 rfl rfl rfl rfl rfl; have e32 := hp.backV 14 0 rfl rfl rfl rfl rfl
          refine ⟨hp.want rfl rfl rfl e29, ?_⟩
          clear hp
          go_simp
          rfl
        refine Free.Seq.val ?_ (fun _ => Below.refl _ _) (fun a w1 hI hp => ?_) ?_
        rotate_left
        · have e29 := hp.backV 11 4 rfl rfl rfl rfl rfl; have e33 := hp.backV 15 0 rfl rfl rfl rfl rfl
          have kc1 := (hI.cell (p := ⟨b, off + k * 4 + 1, none⟩) hbl).trans c1
          refine ⟨hp.want rfl rfl rfl e29, ?_⟩
          clear hp
          go_simp
          rfl
        refine Free.Seq.val ?_ (fun _ => Below.refl _ _) (fun a w1 hI hp => ?_) ?_
        rotate_left
        · have e29 := hp.backV 11 5 rfl rfl rfl rfl rfl; have e1 := hp.slotV 1 (by kernel_rfl) rfl; simp at e1
          refine ⟨hp.want rfl rfl rfl e29, ?_⟩
          clear hp
          go_simp
          rfl
        refine Free.Seq.val ?_ (fun _ => Below.refl _ _) (fun a w1 hI hp => ?_) ?_
        rotate_left
        · have e29 := hp.backV 11 6 rfl rfl rfl rfl rfl; have e5 := hp.slotV 5 (by kernel_rfl) rfl; simp at e5
          refine ⟨hp.want rfl rfl rfl e29, ?_⟩
          clear hp
          go_simp
          rfl
        refine Free.Seq.val ?_ (fun _ => Below.refl _ _) (fun a w1 hI hp => ?_) ?_
        rotate_left
        · have e29 := hp.backV 11 7 rfl rfl rfl rfl rfl; have e35 := hp.backV 17 1 rfl rfl rfl rfl rfl; have e36 := hp.backV 18 0 rfl rfl rfl rfl rfl
          refine ⟨hp.want rfl rfl rfl e29, ?_⟩
          clear hp
          go_simp
          rfl
        refine Free.Seq.val ?_ (fun _ => Below.refl _ _) (fun a w1 hI hp => ?_) ?_
        rotate_left
        · have e29 := hp.backV 11 8 rfl rfl rfl rfl rfl; have e37 := hp.backV 19 0 rfl rfl rfl rfl rfl
          refine ⟨hp.want rfl rfl rfl e29, ?_⟩
          clear hp
          go_simp
          rfl
        refine Free.Seq.val ?_ (fun _ => Below.refl _ _) (fun a w1 hI hp => ?_) ?_
        rotate_left
        · have e29 := hp.backV 11 9 rfl rfl rfl rfl rfl; have e38 := hp.backV 20 0 rfl rfl rfl rfl rfl
          have kd1 := (hI.cell (p := ⟨b', off' + k * 4 + 1, none⟩) hbl').trans d1
          refine ⟨hp.want rfl rfl rfl e29, ?_⟩
          clear hp
          go_simp
          rfl
        refine Free.Seq.val ?_ (fun _ => Below.refl _ _) (fun a w1 hI hp => ?_) ?_
        rotate_left
        · have e29 := hp.backV 11 10 rfl rfl rfl rfl rfl; have e34 := hp.backV 16 5 rfl rfl rfl rfl rfl; have e39 := hp.backV 21 0 rfl rfl rfl rfl rfl
          refine ⟨hp.want rfl rfl rfl e29, ?_⟩
          clear hp
          go_simp
          rfl
        refine Free.Seq.val ?_ (fun _ => Below.refl _ _) (fun a w1 hI hp => ?_) ?_
        rotate_left
        · have e29 := hp.backV 11 11 rfl rfl rfl rfl rfl; have e40 := hp.backV 22 0 rfl rfl rfl rfl rfl
          refine ⟨Free.want_none rfl, ?_⟩
          clear hp
          go_simp
          rfl
        refine Free.Seq.val ?_ (fun _ => Below.refl _ _) (fun a w1 hI hp => ?_) ?_
        rotate_left
        · have e41 := hp.backV 23 0 rfl rfl rfl rfl rfl
          refine ⟨Free.want_none rfl, ?_⟩
          clear hp
          go_simp
          rfl
        refine Free.Seq.pass (fun a w1 hI hp => hp.pass rfl rfl rfl (hp.backV 24 0 rfl rfl rfl rfl rfl)) ?_
        refine Free.Seq.pass (fun a w1 hI hp => hp.pass rfl rfl rfl (hp.backV 24 1 rfl rfl rfl rfl rfl)) ?_
        refine Free.Seq.pass (fun a w1 hI hp => hp.pass rfl rfl rfl (hp.backV 24 2 rfl rfl rfl rfl rfl)) ?_
        refine Free.Seq.pass (fun a w1 hI hp => hp.pass rfl rfl rfl (hp.backV 24 3 rfl rfl rfl rfl rfl)) ?_
        refine Free.Seq.pass (fun a w1 hI hp => hp.pass rfl rfl rfl (hp.backV 24 4 rfl rfl rfl rfl rfl)) ?_
        refine Free.Seq.pass (fun a w1 hI hp => hp.pass rfl rfl rfl (hp.backV 24 5 rfl rfl rfl rfl rfl)) ?_
        refine Free.Seq.pass (fun a w1 hI hp => hp.pass rfl rfl rfl (hp.backV 24 6 rfl rfl rfl rfl rfl)) ?_
        refine Free.Seq.pass (fun a w1 hI hp => hp.pass rfl rfl rfl (hp.backV 24 7 rfl rfl rfl rfl rfl)) ?_
        refine Free.Seq.pass (fun a w1 hI hp => hp.pass rfl rfl rfl (hp.backV 24 8 rfl rfl rfl rfl rfl)) ?_
        refine Free.Seq.pass (fun a w1 hI hp => hp.pass rfl rfl rfl (hp.backV 24 9 rfl rfl rfl rfl rfl)) ?_
        refine Free.Seq.pass (fun a w1 hI hp => hp.pass rfl rfl rfl (hp.backV 24 10 rfl rfl rfl rfl rfl)) ?_
        refine Free.Seq.val ?_ (fun _ => Below.refl _ _) (fun a w1 hI hp => ?_) ?_
        rotate_left
        · have e42 := hp.backV 24 11 rfl rfl rfl rfl rfl; have e53 := hp.backV 35 0 rfl rfl rfl rfl rfl
          refine ⟨Free.want_none rfl, ?_⟩
          clear hp
          go_simp
          rfl
        refine Free.Seq.val ?_ (fun _ => Below.refl _ _) (fun a w1 hI hp => ?_) ?_
        rotate_left
        · have e54 := hp.backV 36 0 rfl rfl rfl rfl rfl
          refine ⟨Free.want_none rfl, ?_⟩
          clear hp
          go_simp
          rfl
        refine Free.Seq.pass (fun a w1 hI hp => hp.pass rfl rfl rfl (hp.backV 37 0 rfl rfl rfl rfl rfl)) ?_
        refine Free.Seq.pass (fun a w1 hI hp => hp.pass rfl rfl rfl (hp.backV 37 1 rfl rfl rfl rfl rfl)) ?_
        refine Free.Seq.pass (fun a w1 hI hp => hp.pass rfl rfl rfl (hp.backV 37 2 rfl rfl rfl rfl rfl)) ?_
        refine Free.Seq.pass (fun a w1 hI hp => hp.pass rfl rfl rfl (hp.backV 37 3 rfl rfl rfl rfl rfl)) ?_
        refine Free.Seq.pass (fun a w1 hI hp => hp.pass rfl rfl rfl (hp.backV 37 4 rfl rfl rfl rfl rfl)) ?_
        refine Free.Seq.pass (fun a w1 hI hp => hp.pass rfl rfl rfl (hp.backV 37 5 rfl rfl rfl rfl rfl)) ?_
        refine Free.Seq.pass (fun a w1 hI hp => hp.pass rfl rfl rfl (hp.backV 37 6 rfl rfl rfl rfl rfl)) ?_
        refine Free.Seq.pass (fun a w1 hI hp => hp.pass rfl rfl rfl (hp.backV 37 7 rfl rfl rfl rfl rfl)) ?_
        refine Free.Seq.pass (fun a w1 hI hp => hp.pass rfl rfl rfl (hp.backV 37 8 rfl rfl rfl rfl rfl)) ?_
        refine Free.Seq.pass (fun a w1 hI hp => hp.pass rfl rfl rfl (hp.backV 37 9 rfl rfl rfl rfl rfl)) ?_
        refine Free.Seq.pass (fun a w1 hI hp => hp.pass rfl rfl rfl (hp.backV 37 10 rfl rfl rfl rfl rfl)) ?_
        refine Free.Seq.pass (fun a w1 hI hp => hp.pass rfl rfl rfl (hp.backV 37 11 rfl rfl rfl rfl rfl)) ?_
        refine Free.Seq.pass (fun a w1 hI hp => hp.pass rfl rfl rfl (hp.backV 37 12 rfl rfl rfl rfl rfl)) ?_
        refine Free.Seq.val ?_ (fun _ => Below.refl _ _) (fun a w1 hI hp => ?_) ?_
        rotate_left
        · have e55 := hp.backV 37 13 rfl rfl rfl rfl rfl; have e68 := hp.backV 50 0 rfl rfl rfl rfl rfl
          refine ⟨Free.want_none rfl, ?_⟩
          clear hp
          go_simp
          rfl
        refine Free.Seq.done (by simp) (fun wz hIz => ?_)
        simp only [List.reverse_cons, List.reverse_nil, List.nil_append, List.cons_append, Free.All, Free.eqF, forall_eq]
        skip
        simp only [Free.putL, Act.put, List.setIfInBounds_toArray, List.set_cons_zero, List.set_cons_succ]
        have HBZ := Lib.hid (HB0.out.trans (hIz.mono HB0.out.size))
        clear hIz
        dsimp only [Exit.inBlock, Exit.then]
        go_wp2_with fail
        go_ret
        exact ⟨ret_bool (by rw [HN.out]), HBZ.out⟩
      have t1 : (xe != ye) = false := by simpa using he
      by_cases hu : xu = yu
      rotate_left
      · have HN := hne (.inr (.inr (.inl hu)))
        have t2 : (xu != yu) = true := by simpa using hu
        clear hne ho he
        go_wp2_with fail
        refine Free.wp_seq (I := fun w' => Below wr.heap.size wr w') (Gr := fun w1 w2 => Below w1.heap.size w1 w2) (by kernel_rfl) (by kernel_rfl) (Below.refl _ _).drew ?_
        refine Free.Seq.val ?_ (fun _ => Below.refl _ _) (fun a w1 hI hp => ?_) ?_
        rotate_left
        · have e0 := hp.slotV 0 (by kernel_rfl) rfl; simp at e0
          refine ⟨Free.want_none rfl, ?_⟩
          clear hp
          go_simp
          rfl
        refine Free.Seq.val ?_ (fun _ => Below.refl _ _) (fun a w1 hI hp => ?_) ?_
        rotate_left
        · have e5 := hp.slotV 5 (by kernel_rfl) rfl; simp at e5
          refine ⟨Free.want_none rfl, ?_⟩
          clear hp
          go_simp
          rfl
        refine Free.Seq.val ?_ (fun _ => Below.refl _ _) (fun a w1 hI hp => ?_) ?_
        rotate_left
        · have e18 := hp.backV 0 1 rfl rfl rfl rfl rfl; have e19 := hp.backV 1 0 rfl rfl rfl rfl rfl
          refine ⟨Free.want_none rfl, ?_⟩
          clear hp
          go_simp
          rfl
        refine Free.Seq.val ?_ (fun _ => Below.refl _ _) (fun a w1 hI hp => ?_) ?_
        rotate_left
        · have e20 := hp.backV 2 0 rfl rfl rfl rfl rfl
          refine ⟨Free.want_none rfl, ?_⟩
          clear hp
          go_simp
          rfl
        refine Free.Seq.val ?_ (fun _ => Below.refl _ _) (fun a w1 hI hp => ?_) ?_
        rotate_left
        · have e21 := hp.backV 3 0 rfl rfl rfl rfl rfl
          have kc0 := (hI.cell (p := ⟨b, off + k * 4, none⟩) hbl).trans c0
          refine ⟨Free.want_none rfl, ?_⟩
          clear hp
          go_simp
          rfl
        refine Free.Seq.val ?_ (fun _ => Below.refl _ _) (fun a w1 hI hp => ?_) ?_
        rotate_left
        · have e1 := hp.slotV 1 (by kernel_rfl) rfl; simp at e1
          refine ⟨Free.want_none rfl, ?_⟩
          clear hp
          go_simp
          rfl
        refine Free.Seq.val ?_ (fun _ => Below.refl _ _) (fun a w1 hI hp => ?_) ?_
        rotate_left
        · have e5 := hp.slotV 5 (by kernel_rfl) rfl; simp at e5
          refine ⟨Free.want_none rfl, ?_⟩
          clear hp
          go_simp
          rfl
        refine Free.Seq.val ?_ (fun _ => Below.refl _ _) (fun a w1 hI hp => ?_) ?_
        rotate_left
        · have e23 := hp.backV 5 1 rfl rfl rfl rfl rfl; have e24 := hp.backV 6 0 rfl rfl rfl rfl rfl
          refine ⟨Free.want_none rfl, ?_⟩
          clear hp
          go_simp
          rfl
        refine Free.Seq.val ?_ (fun _ => Below.refl _ _) (fun a w1 hI hp => ?_) ?_
        rotate_left
        · have e25 := hp.backV 7 0 rfl rfl rfl rfl rfl
          refine ⟨Free.want_none rfl, ?_⟩
          clear hp
          go_simp
          rfl
        refine Free.Seq.val ?_ (fun _ => Below.refl _ _) (fun a w1 hI hp => ?_) ?_
        rotate_left
        · have e26 := hp.backV 8 0 rfl rfl rfl rfl rfl
          have kd0 := (hI.cell (p := ⟨b', off' + k * 4, none⟩) hbl').trans d0
          refine ⟨Free.want_none rfl, ?_⟩
          clear hp
          go_simp
          rfl
        refine Free.Seq.val ?_ (fun _ => Below.refl _ _) (fun a w1 hI hp => ?_) ?_
        rotate_left
        · have e22 := hp.backV 4 5 rfl rfl rfl rfl rfl; have e27 := hp.backV 9 0 rfl rfl rfl rfl rfl
          refine ⟨Free.want_none rfl, ?_⟩
          clear hp
          go_simp
          rfl
        refine Free.Seq.val ?_ (fun _ => Below.refl _ _) (fun a w1 hI hp => ?_) ?_
        rotate_left
        · have e28 := hp.backV 10 0 rfl rfl rfl rfl rfl
          refine ⟨Free.want_none rfl, ?_⟩
          clear hp
          go_simp
          rfl
        refine Free.Seq.val ?_ (fun _ => Below.refl _ _) (fun a w1 hI hp => ?_) ?_
        rotate_left
        · have e29 := hp.backV 11 0 rfl rfl rfl rfl rfl; have e0 := hp.slotV 0 (by kernel_rfl) rfl; simp at e0
          refine ⟨hp.want rfl rfl rfl e29, ?_⟩
          clear hp
          go_simp
          rfl
        refine Free.Seq.val ?_ (fun _ => Below.refl _ _) (fun a w1 hI hp => ?_) ?_
        rotate_left
        · have e29 := hp.backV 11 1 rfl rfl rfl rfl rfl; have e5 := hp.slotV 5 (by kernel_rfl) rfl; simp at e5
          refine ⟨hp.want rfl rfl rfl e29, ?_⟩
          clear hp
          go_simp
          rfl
        refine Free.Seq.val ?_ (fun _ => Below.refl _ _) (fun a w1 hI hp => ?_) ?_
        rotate_left
        · have e29 := hp.backV 11 2 rfl rfl rfl rfl rfl; have e30 := hp.backV 12 1 rfl rfl rfl rfl rfl; have e31 := hp.backV 13 0 rfl rfl rfl rfl rfl
          refine ⟨hp.want rfl rfl rfl e29, ?_⟩
          clear hp
          go_simp
          rfl
        refine Free.Seq.val ?_ (fun _ => Below.refl _ _) (fun a w1 hI hp => ?_) ?_
        rotate_left
        · have e29 := hp.backV 11 3 rfl rfl rfl rfl rfl; have e32 := hp.backV 14 0 rfl rfl rfl rfl rfl
          refine ⟨hp.want rfl rfl rfl e29, ?_⟩
          clear hp
          go_simp
          rfl
        refine Free.Seq.val ?_ (fun _ => Below.refl _ _) (fun a w1 hI hp => ?_) ?_
        rotate_left
        · have e29 := hp.backV 11 4 rfl rfl rfl rfl rfl; have e33 := hp.backV 15 0 rfl rfl rfl rfl rfl
          have kc1 := (hI.cell (p := ⟨b, off + k * 4 + 1, none⟩) hbl).trans c1
          refine ⟨hp.want rfl rfl rfl e29, ?_⟩
          clear hp
          go_simp
          rfl
        refine Free.Seq.val ?_ (fun _ => Below.refl _ _) (fun a w1 hI hp => ?_) ?_
        rotate_left
        · have e29 := hp.backV 11 5 rfl rfl rfl rfl rfl; have e1 := hp.slotV 1 (by kernel_rfl) rfl; simp at e1
          refine ⟨hp.want rfl rfl rfl e29, ?_⟩
          clear hp
          go_simp
          rfl
        refine Free.Seq.val ?_ (fun _ => Below.refl _ _) (fun a w1 hI hp => ?_) ?_
        rotate_left
        · have e29 := hp.backV 11 6 rfl rfl rfl rfl rfl; have e5 := hp.slotV 5 (by kernel_rfl) rfl; simp at e5
          refine ⟨hp.want rfl rfl rfl e29, ?_⟩
          clear hp
          go_simp
          rfl
        refine Free.Seq.val ?_ (fun _ => Below.refl _ _) (fun a w1 hI hp => ?_) ?_
        rotate_left
        · have e29 := hp.backV 11 7 rfl rfl rfl rfl rfl; have e35 := hp.backV 17 1 rfl rfl rfl rfl rfl; have e36 := hp.backV 18 0 rfl rfl rfl rfl rfl
          refine ⟨hp.want rfl rfl rfl e29, ?_⟩
          clear hp
          go_simp
          rfl
        refine Free.Seq.val ?_ (fun _ => Below.refl _ _) (fun a w1 hI hp => ?_) ?_
        rotate_left
        · have e29 := hp.backV 11 8 rfl rfl rfl rfl rfl; have e37 := hp.backV 19 0 rfl rfl rfl rfl rfl
          refine ⟨hp.want rfl rfl rfl e29, ?_⟩
          clear hp
          go_simp
          rfl
        refine Free.Seq.val ?_ (fun _ => Below.refl _ _) (fun a w1 hI hp => ?_) ?_
        rotate_left
        · have e29 := hp.backV 11 9 rfl rfl rfl rfl rfl; have e38 := hp.backV 20 0 rfl rfl rfl rfl rfl
          have kd1 := (hI.cell (p := ⟨b', off' + k * 4 + 1, none⟩) hbl').trans d1
          refine ⟨hp.want rfl rfl rfl e29, ?_⟩
          clear hp
          go_simp
          rfl
        refine Free.Seq.val ?_ (fun _ => Below.refl _ _) (fun a w1 hI hp => ?_) ?_
        rotate_left
        · have e29 := hp.backV 11 10 rfl rfl rfl rfl rfl; have e34 := hp.backV 16 5 rfl rfl rfl rfl rfl; have e39 := hp.backV 21 0 rfl rfl rfl rfl rfl
          refine ⟨hp.want rfl rfl rfl e29, ?_⟩
          clear hp
          go_simp
          rfl
        refine Free.Seq.val ?_ (fun _ => Below.refl _ _) (fun a w1 hI hp => ?_) ?_
        rotate_left
        · have e29 := hp.backV 11 11 rfl rfl rfl rfl rfl; have e40 := hp.backV 22 0 rfl rfl rfl rfl rfl
          refine ⟨Free.want_none rfl, ?_⟩
          clear hp
          go_simp
          rfl
        refine Free.Seq.val ?_ (fun _ => Below.refl _ _) (fun a w1 hI hp => ?_) ?_
        rotate_left
        · have e41 := hp.backV 23 0 rfl rfl rfl rfl rfl
          refine ⟨Free.want_none rfl, ?_⟩
          clear hp
          go_simp
          rfl
        refine Free.Seq.val ?_ (fun _ => Below.refl _ _) (fun a w1 hI hp => ?_) ?_
        rotate_left
        · have e42 := hp.backV 24 0 rfl rfl rfl rfl rfl; have e0 := hp.slotV 0 (by kernel_rfl) rfl; simp at e0
          refine ⟨hp.want rfl rfl rfl e42, ?_⟩
          clear hp
          go_simp
          rfl
        refine Free.Seq.val ?_ (fun _ => Below.refl _ _) (fun a w1 hI hp => ?_) ?_
        rotate_left
        · have e42 := hp.backV 24 1 rfl rfl rfl rfl rfl; have e5 := hp.slotV 5 (by kernel_rfl) rfl; simp at e5
          refine ⟨hp.want rfl rfl rfl e42, ?_⟩
          clear hp
          go_simp
          rfl
        refine Free.Seq.val ?_ (fun _ => Below.refl _ _) (fun a w1 hI hp => ?_) ?_
        rotate_left
        · have e42 := hp.backV 24 2 rfl rfl rfl rfl rfl; have e43 := hp.backV 25 1 rfl rfl rfl rfl rfl; have e44 := hp.backV 26 0 rfl rfl rfl rfl rfl
          refine ⟨hp.want rfl rfl rfl e42, ?_⟩
          clear hp
          go_simp
          rfl
        refine Free.Seq.val ?_ (fun _ => Below.refl _ _) (fun a w1 hI hp => ?_) ?_
        rotate_left
        · have e42 := hp.backV 24 3 rfl rfl rfl rfl rfl; have e45 := hp.backV 27 0 rfl rfl rfl rfl rfl
          refine ⟨hp.want rfl rfl rfl e42, ?_⟩
          clear hp
          go_simp
          rfl
        refine Free.Seq.val ?_ (fun _ => Below.refl _ _) (fun a w1 hI hp => ?_) ?_
        rotate_left
        · have e42 := hp.backV 24 4 rfl rfl rfl rfl rfl; have e46 := hp.backV 28 0 rfl rfl rfl rfl rfl
          have kc2 := (hI.cell (p := ⟨b, off + k * 4 + 2, none⟩) hbl).trans c2
          refine ⟨hp.want rfl rfl rfl e42, ?_⟩
          clear hp
          go_simp
          rfl
        refine Free.Seq.val ?_ (fun _ => Below.refl _ _) (fun a w1 hI hp => ?_) ?_
        rotate_left
        · have e42 := hp.backV 24 5 rfl rfl rfl rfl rfl; have e1 := hp.slotV 1 (by kernel_rfl) rfl; simp at e1
          refine ⟨hp.want rfl rfl rfl e42, ?_⟩
          clear hp
          go_simp
          rfl
        refine Free.Seq.val ?_ (fun _ => Below.refl _ _) (fun a w1 hI hp => ?_) ?_
        rotate_left
        · have e42 := hp.backV 24 6 rfl rfl rfl rfl rfl; have e5 := hp.slotV 5 (by kernel_rfl) rfl; simp at e5
          refine ⟨hp.want rfl rfl rfl e42, ?_⟩
          clear hp
          go_simp
          rfl
        refine Free.Seq.val ?_ (fun _ => Below.refl _ _) (fun a w1 hI hp => ?_) ?_
        rotate_left
        · have e42 := hp.backV 24 7 rfl rfl rfl rfl rfl; have e48 := hp.backV 30 1 rfl rfl rfl rfl rfl; have e49 := hp.backV 31 0 rfl rfl rfl rfl rfl
          refine ⟨hp.want rfl rfl rfl e42, ?_⟩
          clear hp
          go_simp
          rfl
        refine Free.Seq.val ?_ (fun _ => Below.refl _ _) (fun a w1 hI hp => ?_) ?_
        rotate_left
        · have e42 := hp.backV 24 8 rfl rfl rfl rfl rfl; have e50 := hp.backV 32 0 rfl rfl rfl rfl rfl
          refine ⟨hp.want rfl rfl rfl e42, ?_⟩
          clear hp
          go_simp
          rfl
        refine Free.Seq.val ?_ (fun _ => Below.refl _ _) (fun a w1 hI hp => ?_) ?_
        rotate_left
        · have e42 := hp.backV 24 9 rfl rfl rfl rfl rfl; have e51 := hp.backV 33 0 rfl rfl rfl rfl rfl
          have kd2 := (hI.cell (p := ⟨b', off' + k * 4 + 2, none⟩) hbl').trans d2
          refine ⟨hp.want rfl rfl rfl e42, ?_⟩
          clear hp
          go_simp
          rfl
        refine Free.Seq.val ?_ (fun _ => Below.refl _ _) (fun a w1 hI hp => ?_) ?_
        rotate_left
        · have e42 := hp.backV 24 10 rfl rfl rfl rfl rfl; have e47 := hp.backV 29 5 rfl rfl rfl rfl rfl; have e52 := hp.backV 34 0 rfl rfl rfl rfl rfl
          refine ⟨hp.want rfl rfl rfl e42, ?_⟩
          clear hp
          go_simp
          rfl
        refine Free.Seq.val ?_ (fun _ => Below.refl _ _) (fun a w1 hI hp => ?_) ?_
        rotate_left
        · have e42 := hp.backV 24 11 rfl rfl rfl rfl rfl; have e53 := hp.backV 35 0 rfl rfl rfl rfl rfl
          refine ⟨Free.want_none rfl, ?_⟩
          clear hp
          go_simp
          rfl
        refine Free.Seq.val ?_ (fun _ => Below.refl _ _) (fun a w1 hI hp => ?_) ?_
        rotate_left
        · have e54 := hp.backV 36 0 rfl rfl rfl rfl rfl
          refine ⟨Free.want_none rfl, ?_⟩
          clear hp
          go_simp
          rfl
        refine Free.Seq.pass (fun a w1 hI hp => hp.pass rfl rfl rfl (hp.backV 37 0 rfl rfl rfl rfl rfl)) ?_
        refine Free.Seq.pass (fun a w1 hI hp => hp.pass rfl rfl rfl (hp.backV 37 1 rfl rfl rfl rfl rfl)) ?_
        refine Free.Seq.pass (fun a w1 hI hp => hp.pass rfl rfl rfl (hp.backV 37 2 rfl rfl rfl rfl rfl)) ?_
        refine Free.Seq.pass (fun a w1 hI hp => hp.pass rfl rfl rfl (hp.backV 37 3 rfl rfl rfl rfl rfl)) ?_
        refine Free.Seq.pass (fun a w1 hI hp => hp.pass rfl rfl rfl (hp.backV 37 4 rfl rfl rfl rfl rfl)) ?_
        refine Free.Seq.pass (fun a w1 hI hp => hp.pass rfl rfl rfl (hp.backV 37 5 rfl rfl rfl rfl rfl)) ?_
        refine Free.Seq.pass (fun a w1 hI hp => hp.pass rfl rfl rfl (hp.backV 37 6 rfl rfl rfl rfl rfl)) ?_
        refine Free.Seq.pass (fun a w1 hI hp => hp.pass rfl rfl rfl (hp.backV 37 7 rfl rfl rfl rfl rfl)) ?_
        refine Free.Seq.pass (fun a w1 hI hp => hp.pass rfl rfl rfl (hp.backV 37 8 rfl rfl rfl rfl rfl)) ?_
        refine Free.Seq.pass (fun a w1 hI hp => hp.pass rfl rfl rfl (hp.backV 37 9 rfl rfl rfl rfl rfl)) ?_
        refine Free.Seq.pass (fun a w1 hI hp => hp.pass rfl rfl rfl (hp.backV 37 10 rfl rfl rfl rfl rfl)) ?_
        refine Free.Seq.pass (fun a w1 hI hp => hp.pass rfl rfl rfl (hp.backV 37 11 rfl rfl rfl rfl rfl)) ?_
        refine Free.Seq.pass (fun a w1 hI hp => hp.pass rfl rfl rfl (hp.backV 37 12 rfl rfl rfl rfl rfl)) ?_
        refine Free.Seq.val ?_ (fun _ => Below.refl _ _) (fun a w1 hI hp => ?_) ?_
        rotate_left
        · have e55 := hp.backV 37 13 rfl rfl rfl rfl rfl; have e68 := hp.backV 50 0 rfl rfl rfl rfl rfl
          refine ⟨Free.want_none rfl, ?_⟩
          clear hp
          go_simp
          rfl
        refine Free.Seq.done (by simp) (fun wz hIz => ?_)
        simp only [List.reverse_cons, List.reverse_nil, List.nil_append, List.cons_append, Free.All, Free.eqF, forall_eq]
        skip
        simp only [Free.putL, Act.put, List.setIfInBounds_toArray, List.set_cons_zero, List.set_cons_succ]
        have HBZ := Lib.hid (HB0.out.trans (hIz.mono HB0.out.size))
        clear hIz
        dsimp only [Exit.inBlock, Exit.then]
        go_wp2_with fail
        go_ret
        exact ⟨ret_bool (by rw [HN.out]), HBZ.out⟩
      have t2 : (xu != yu) = false := by simpa using hu
      by_cases hl : nx = ny
      rotate_left
      · have HN := hne (.inr (.inr (.inr hl)))
        have t3 : ((nx : Int) != (ny : Int)) = true := by simp; omega
        clear hne ho he hu
        go_wp2_with fail
        refine Free.wp_seq (I := fun w' => Below wr.heap.size wr w') (Gr := fun w1 w2 => Below w1.heap.size w1 w2) (by kernel_rfl) (by kernel_rfl) (Below.refl _ _).drew ?_
        refine Free.Seq.val ?_ (fun _ => Below.refl _ _) (fun a w1 hI hp => ?_) ?_
        rotate_left
        · have e0 := hp.slotV 0 (by kernel_rfl) rfl; simp at e0
          refine ⟨Free.want_none rfl, ?_⟩
          clear hp
          go_simp
          rfl
        refine Free.Seq.val ?_ (fun _ => Below.refl _ _) (fun a w1 hI hp => ?_) ?_
        rotate_left
        · have e5 := hp.slotV 5 (by kernel_rfl) rfl; simp at e5
          refine ⟨Free.want_none rfl, ?_⟩
          clear hp
          go_simp
          rfl
        refine Free.Seq.val ?_ (fun _ => Below.refl _ _) (fun a w1 hI hp => ?_) ?_
        rotate_left
        · have e18 := hp.backV 0 1 rfl rfl rfl rfl rfl; have e19 := hp.backV 1 0 rfl rfl rfl rfl rfl
          refine ⟨Free.want_none rfl, ?_⟩
          clear hp
          go_simp
          rfl
        refine Free.Seq.val ?_ (fun _ => Below.refl _ _) (fun a w1 hI hp => ?_) ?_
        rotate_left
        · have e20 := hp.backV 2 0 rfl rfl rfl rfl rfl
          refine ⟨Free.want_none rfl, ?_⟩
          clear hp
          go_simp
          rfl
        refine Free.Seq.val ?_ (fun _ => Below.refl _ _) (fun a w1 hI hp => ?_) ?_
        rotate_left
        · have e21 := hp.backV 3 0 rfl rfl rfl rfl rfl
          have kc0 := (hI.cell (p := ⟨b, off + k * 4, none⟩) hbl).trans c0
          refine ⟨Free.want_none rfl, ?_⟩
          clear hp
          go_simp
          rfl
        refine Free.Seq.val ?_ (fun _ => Below.refl _ _) (fun a w1 hI hp => ?_) ?_
        rotate_left
        · have e1 := hp.slotV 1 (by kernel_rfl) rfl; simp at e1
          refine ⟨Free.want_none rfl, ?_⟩
          clear hp
          go_simp
          rfl
        refine Free.Seq.val ?_ (fun _ => Below.refl _ _) (fun a w1 hI hp => ?_) ?_
        rotate_left
        · have e5 := hp.slotV 5 (by kernel_rfl) rfl; simp at e5
          refine ⟨Free.want_none rfl, ?_⟩
          clear hp
          go_simp
          rfl
        refine Free.Seq.val ?_ (fun _ => Below.refl _ _) (fun a w1 hI hp => ?_) ?_
        rotate_left
        · have e23 := hp.backV 5 1 rfl rfl rfl rfl rfl; have e24 := hp.backV 6 0 rfl rfl rfl rfl rfl
          refine ⟨Free.want_none rfl, ?_⟩
          clear hp
          go_simp
          rfl
        refine Free.Seq.val ?_ (fun _ => Below.refl _ _) (fun a w1 hI hp => ?_) ?_
        rotate_left
        · have e25 := hp.backV 7 0 rfl rfl rfl rfl rfl
          refine ⟨Free.want_none rfl, ?_⟩
          clear hp
          go_simp
          rfl
        refine Free.Seq.val ?_ (fun _ => Below.refl _ _) (fun a w1 hI hp => ?_) ?_
        rotate_left
        · have e26 := hp.backV 8 0 rfl rfl rfl rfl rfl
          have kd0 := (hI.cell (p := ⟨b', off' + k * 4, none⟩) hbl').trans d0
          refine ⟨Free.want_none rfl, ?_⟩
          clear hp
          go_simp
          rfl
        refine Free.Seq.val ?_ (fun _ => Below.refl _ _) (fun a w1 hI hp => ?_) ?_
        rotate_left
        · have e22 := hp.backV 4 5 rfl rfl rfl rfl rfl; have e27 := hp.backV 9 0 rfl rfl rfl rfl rfl
          refine ⟨Free.want_none rfl, ?_⟩
          clear hp
          go_simp
          rfl
        refine Free.Seq.val ?_ (fun _ => Below.refl _ _) (fun a w1 hI hp => ?_) ?_
        rotate_left
        · have e28 := hp.backV 10 0 rfl rfl rfl rfl rfl
          refine ⟨Free.want_none rfl, ?_⟩
          clear hp
          go_simp
          rfl
        refine Free.Seq.val ?_ (fun _ => Below.refl _ _) (fun a w1 hI hp => ?_) ?_
        rotate_left
        · have e29 := hp.backV 11 0 rfl rfl rfl rfl rfl; have e0 := hp.slotV 0 (by kernel_rfl) rfl; simp at e0
          refine ⟨hp.want rfl rfl rfl e29, ?_⟩
          clear hp
          go_simp
          rfl
        refine Free.Seq.val ?_ (fun _ => Below.refl _ _) (fun a w1 hI hp => ?_) ?_
        rotate_left
        · have e29 := hp.backV 11 1 rfl rfl rfl rfl rfl; have e5 := hp.slotV 5 (by kernel_rfl) rfl; simp at e5
          refine ⟨hp.want rfl rfl rfl e29, ?_⟩
          clear hp
          go_simp
          rfl
        refine Free.Seq.val ?_ (fun _ => Below.refl _ _) (fun a w1 hI hp => ?_) ?_
        rotate_left
        · have e29 := hp.backV 11 2 rfl rfl rfl rfl rfl; have e30 := hp.backV 12 1 rfl rfl rfl rfl rfl; have e31 := hp.backV 13 0 rfl rfl rfl rfl rfl
          refine ⟨hp.want rfl rfl rfl e29, ?_⟩
          clear hp
          go_simp
          rfl
        refine Free.Seq.val ?_ (fun _ => Below.refl _ _) (fun a w1 hI hp => ?_) ?_
        rotate_left
        · have e29 := hp.backV 11 3 rfl rfl rfl rfl rfl; have e32 := hp.backV 14 0 rfl rfl rfl rfl rfl
          refine ⟨hp.want rfl rfl rfl e29, ?_⟩
          clear hp
          go_simp
          rfl
        refine Free.Seq.val ?_ (fun _ => Below.refl _ _) (fun a w1 hI hp => ?_) ?_
        rotate_left
        · have e29 := hp.backV 11 4 rfl rfl rfl rfl rfl; have e33 := hp.backV 15 0 rfl rfl rfl rfl rfl
          have kc1 := (hI.cell (p := ⟨b, off + k * 4 + 1, none⟩) hbl).trans c1
          refine ⟨hp.want rfl rfl rfl e29, ?_⟩
          clear hp
          go_simp
          rfl
        refine Free.Seq.val ?_ (fun _ => Below.refl _ _) (fun a w1 hI hp => ?_) ?_
        rotate_left
        · have e29 := hp.backV 11 5 rfl rfl rfl rfl rfl; have e1 := hp.slotV 1 (by kernel_rfl) rfl; simp at e1
          refine ⟨hp.want rfl rfl rfl e29, ?_⟩
          clear hp
          go_simp
          rfl
        refine Free.Seq.val ?_ (fun _ => Below.refl _ _) (fun a w1 hI hp => ?_) ?_
        rotate_left
        · have e29 := hp.backV 11 6 rfl rfl rfl rfl rfl; have e5 := hp.slotV 5 (by kernel_rfl) rfl; simp at e5
          refine ⟨hp.want rfl rfl rfl e29, ?_⟩
          clear hp
          go_simp
          rfl
        refine Free.Seq.val ?_ (fun _ => Below.refl _ _) (fun a w1 hI hp => ?_) ?_
        rotate_left
        · have e29 := hp.backV 11 7 rfl rfl rfl rfl rfl; have e35 := hp.backV 17 1 rfl rfl rfl rfl rfl; have e36 := hp.backV 18 0 rfl rfl rfl rfl rfl
          refine ⟨hp.want rfl rfl rfl e29, ?_⟩
          clear hp
          go_simp
          rfl
        refine Free.Seq.val ?_ (fun _ => Below.refl _ _) (fun a w1 hI hp => ?_) ?_
        rotate_left
        · have e29 := hp.backV 11 8 rfl rfl rfl rfl rfl; have e37 := hp.backV 19 0 rfl rfl rfl rfl rfl
          refine ⟨hp.want rfl rfl rfl e29, ?_⟩
          clear hp
          go_simp
          rfl
        refine Free.Seq.val ?_ (fun _ => Below.refl _ _) (fun a w1 hI hp => ?_) ?_
        rotate_left
        · have e29 := hp.backV 11 9 rfl rfl rfl rfl rfl; have e38 := hp.backV 20 0 rfl rfl rfl rfl rfl
          have kd1 := (hI.cell (p := ⟨b', off' + k * 4 + 1, none⟩) hbl').trans d1
          refine ⟨hp.want rfl rfl rfl e29, ?_⟩
          clear hp
          go_simp
          rfl
        refine Free.Seq.val ?_ (fun _ => Below.refl _ _) (fun a w1 hI hp => ?_) ?_
        rotate_left
        · have e29 := hp.backV 11 10 rfl rfl rfl rfl rfl; have e34 := hp.backV 16 5 rfl rfl rfl rfl rfl; have e39 := hp.backV 21 0 rfl rfl rfl rfl rfl
          refine ⟨hp.want rfl rfl rfl e29, ?_⟩
          clear hp
          go_simp
          rfl
        refine Free.Seq.val ?_ (fun _ => Below.refl _ _) (fun a w1 hI hp => ?_) ?_
        rotate_left
        · have e29 := hp.backV 11 11 rfl rfl rfl rfl rfl; have e40 := hp.backV 22 0 rfl rfl rfl rfl rfl
          refine ⟨Free.want_none rfl, ?_⟩
          clear hp
          go_simp
          rfl
        refine Free.Seq.val ?_ (fun _ => Below.refl _ _) (fun a w1 hI hp => ?_) ?_
        rotate_left
        · have e41 := hp.backV 23 0 rfl rfl rfl rfl rfl
          refine ⟨Free.want_none rfl, ?_⟩
          clear hp
          go_simp
          rfl
        refine Free.Seq.val ?_ (fun _ => Below.refl _ _) (fun a w1 hI hp => ?_) ?_
        rotate_left
        · have e42 := hp.backV 24 0 rfl rfl rfl rfl rfl; have e0 := hp.slotV 0 (by kernel_rfl) rfl; simp at e0
          refine ⟨hp.want rfl rfl rfl e42, ?_⟩
          clear hp
          go_simp
          rfl
        refine Free.Seq.val ?_ (fun _ => Below.refl _ _) (fun a w1 hI hp => ?_) ?_
        rotate_left
        · have e42 := hp.backV 24 1 rfl rfl rfl rfl rfl; have e5 := hp.slotV 5 (by kernel_rfl) rfl; simp at e5
          refine ⟨hp.want rfl rfl rfl e42, ?_⟩
          clear hp
          go_simp
          rfl
        refine Free.Seq.val ?_ (fun _ => Below.refl _ _) (fun a w1 hI hp => ?_) ?_
        rotate_left
        · have e42 := hp.backV 24 2 rfl rfl rfl rfl rfl; have e43 := hp.backV 25 1 rfl rfl rfl rfl rfl; have e44 := hp.backV 26 0 rfl rfl rfl rfl rfl
          refine ⟨hp.want rfl rfl rfl e42, ?_⟩
          clear hp
          go_simp
          rfl
        refine Free.Seq.val ?_ (fun _ => Below.refl _ _) (fun a w1 hI hp => ?_) ?_
        rotate_left
        · have e42 := hp.backV 24 3 rfl rfl rfl rfl rfl; have e45 := hp.backV 27 0 rfl rfl rfl rfl rfl
          refine ⟨hp.want rfl rfl rfl e42, ?_⟩
          clear hp
          go_simp
          rfl
        refine Free.Seq.val ?_ (fun _ => Below.refl _ _) (fun a w1 hI hp => ?_) ?_
        rotate_left
        · have e42 := hp.backV 24 4 rfl rfl rfl rfl rfl; have e46 := hp.backV 28 0 rfl rfl rfl rfl rfl
          have kc2 := (hI.cell (p := ⟨b, off + k * 4 + 2, none⟩) hbl).trans c2
          refine ⟨hp.want rfl rfl rfl e42, ?_⟩
          clear hp
          go_simp
          rfl
        refine Free.Seq.val ?_ (fun _ => Below.refl _ _) (fun a w1 hI hp => ?_) ?_
        rotate_left
        · have e42 := hp.backV 24 5 rfl rfl rfl rfl rfl; have e1 := hp.slotV 1 (by kernel_rfl) rfl; simp at e1
          refine ⟨hp.want rfl rfl rfl e42, ?_⟩
          clear hp
          go_simp
          rfl
        refine Free.Seq.val ?_ (fun _ => Below.refl _ _) (fun a w1 hI hp => ?_) ?_
        rotate_left
        · have e42 := hp.backV 24 6 rfl rfl rfl rfl rfl; have e5 := hp.slotV 5 (by kernel_rfl) rfl; simp at e5
          refine ⟨hp.want rfl rfl rfl e42, ?_⟩
          clear hp
          go_simp
          rfl
        refine Free.Seq.val ?_ (fun _ => Below.refl _ _) (fun a w1 hI hp => ?_) ?_
        rotate_left
        · have e42 := hp.backV 24 7 rfl rfl rfl rfl rfl; have e48 := hp.backV 30 1 rfl rfl rfl rfl rfl; have e49 := hp.backV 31 0 rfl rfl rfl rfl rfl
          refine ⟨hp.want rfl rfl rfl e42, ?_⟩
          clear hp
          go_simp
          rfl
        refine Free.Seq.val ?_ (fun _ => Below.refl _ _) (fun a w1 hI hp => ?_) ?_
        rotate_left
        · have e42 := hp.backV 24 8 rfl rfl rfl rfl rfl; have e50 := hp.backV 32 0 rfl rfl rfl rfl rfl
          refine ⟨hp.want rfl rfl rfl e42, ?_⟩
          clear hp
          go_simp
          rfl
        refine Free.Seq.val ?_ (fun _ => Below.refl _ _) (fun a w1 hI hp => ?_) ?_
        rotate_left
        · have e42 := hp.backV 24 9 rfl rfl rfl rfl rfl; have e51 := hp.backV 33 0 rfl rfl rfl rfl rfl
          have kd2 := (hI.cell (p := ⟨b', off' + k * 4 + 2, none⟩) hbl').trans d2
          refine ⟨hp.want rfl rfl rfl e42, ?_⟩
          clear hp
          go_simp
          rfl
        refine Free.Seq.val ?_ (fun _ => Below.refl _ _) (fun a w1 hI hp => ?_) ?_
        rotate_left
        · have e42 := hp.backV 24 10 rfl rfl rfl rfl rfl; have e47 := hp.backV 29 5 rfl rfl rfl rfl rfl; have e52 := hp.backV 34 0 rfl rfl rfl rfl rfl
          refine ⟨hp.want rfl rfl rfl e42, ?_⟩
          clear hp
          go_simp
          rfl
        refine Free.Seq.val ?_ (fun _ => Below.refl _ _) (fun a w1 hI hp => ?_) ?_
        rotate_left
        · have e42 := hp.backV 24 11 rfl rfl rfl rfl rfl; have e53 := hp.backV 35 0 rfl rfl rfl rfl rfl
          refine ⟨Free.want_none rfl, ?_⟩
          clear hp
          go_simp
          rfl
        refine Free.Seq.val ?_ (fun _ => Below.refl _ _) (fun a w1 hI hp => ?_) ?_
        rotate_left
        · have e54 := hp.backV 36 0 rfl rfl rfl rfl rfl
          refine ⟨Free.want_none rfl, ?_⟩
          clear hp
          go_simp
          rfl
        refine Free.Seq.val ?_ (fun _ => Below.refl _ _) (fun a w1 hI hp => ?_) ?_
        rotate_left
        · have e55 := hp.backV 37 0 rfl rfl rfl rfl rfl; have e0 := hp.slotV 0 (by kernel_rfl) rfl; simp at e0
          refine ⟨hp.want rfl rfl rfl e55, ?_⟩
          clear hp
          go_simp
          rfl
        refine Free.Seq.val ?_ (fun _ => Below.refl _ _) (fun a w1 hI hp => ?_) ?_
        rotate_left
        · have e55 := hp.backV 37 1 rfl rfl rfl rfl rfl; have e5 := hp.slotV 5 (by kernel_rfl) rfl; simp at e5
          refine ⟨hp.want rfl rfl rfl e55, ?_⟩
          clear hp
          go_simp
          rfl
        refine Free.Seq.val ?_ (fun _ => Below.refl _ _) (fun a w1 hI hp => ?_) ?_
        rotate_left
        · have e55 := hp.backV 37 2 rfl rfl rfl rfl rfl; have e56 := hp.backV 38 1 rfl rfl rfl rfl rfl; have e57 := hp.backV 39 0 rfl rfl rfl rfl rfl
          refine ⟨hp.want rfl rfl rfl e55, ?_⟩
          clear hp
          go_simp
          rfl
        refine Free.Seq.val ?_ (fun _ => Below.refl _ _) (fun a w1 hI hp => ?_) ?_
        rotate_left
        · have e55 := hp.backV 37 3 rfl rfl rfl rfl rfl; have e58 := hp.backV 40 0 rfl rfl rfl rfl rfl
          refine ⟨hp.want rfl rfl rfl e55, ?_⟩
          clear hp
          go_simp
          rfl
        refine Free.Seq.val ?_ (fun _ => Below.refl _ _) (fun a w1 hI hp => ?_) ?_
        rotate_left
        · have e55 := hp.backV 37 4 rfl rfl rfl rfl rfl; have e59 := hp.backV 41 0 rfl rfl rfl rfl rfl
          have kc3 := (hI.cell (p := ⟨b, off + k * 4 + 3, none⟩) hbl).trans c3
          refine ⟨hp.want rfl rfl rfl e55, ?_⟩
          clear hp
          go_simp
          rfl
        refine Free.Seq.val ?_ (fun _ => Below.refl _ _) (fun a w1 hI hp => ?_) ?_
        rotate_left
        · have e55 := hp.backV 37 5 rfl rfl rfl rfl rfl; have e60 := hp.backV 42 0 rfl rfl rfl rfl rfl
          refine ⟨hp.want rfl rfl rfl e55, ?_⟩
          clear hp
          go_simp
          rfl
        refine Free.Seq.val ?_ (fun _ => Below.refl _ _) (fun a w1 hI hp => ?_) ?_
        rotate_left
        · have e55 := hp.backV 37 6 rfl rfl rfl rfl rfl; have e1 := hp.slotV 1 (by kernel_rfl) rfl; simp at e1
          refine ⟨hp.want rfl rfl rfl e55, ?_⟩
          clear hp
          go_simp
          rfl
        refine Free.Seq.val ?_ (fun _ => Below.refl _ _) (fun a w1 hI hp => ?_) ?_
        rotate_left
        · have e55 := hp.backV 37 7 rfl rfl rfl rfl rfl; have e5 := hp.slotV 5 (by kernel_rfl) rfl; simp at e5
          refine ⟨hp.want rfl rfl rfl e55, ?_⟩
          clear hp
          go_simp
          rfl
        refine Free.Seq.val ?_ (fun _ => Below.refl _ _) (fun a w1 hI hp => ?_) ?_
        rotate_left
        · have e55 := hp.backV 37 8 rfl rfl rfl rfl rfl; have e62 := hp.backV 44 1 rfl rfl rfl rfl rfl; have e63 := hp.backV 45 0 rfl rfl rfl rfl rfl
          refine ⟨hp.want rfl rfl rfl e55, ?_⟩
          clear hp
          go_simp
          rfl
        refine Free.Seq.val ?_ (fun _ => Below.refl _ _) (fun a w1 hI hp => ?_) ?_
        rotate_left
        · have e55 := hp.backV 37 9 rfl rfl rfl rfl rfl; have e64 := hp.backV 46 0 rfl rfl rfl rfl rfl
          refine ⟨hp.want rfl rfl rfl e55, ?_⟩
          clear hp
          go_simp
          rfl
        refine Free.Seq.val ?_ (fun _ => Below.refl _ _) (fun a w1 hI hp => ?_) ?_
        rotate_left
        · have e55 := hp.backV 37 10 rfl rfl rfl rfl rfl; have e65 := hp.backV 47 0 rfl rfl rfl rfl rfl
          have kd3 := (hI.cell (p := ⟨b', off' + k * 4 + 3, none⟩) hbl').trans d3
          refine ⟨hp.want rfl rfl rfl e55, ?_⟩
          clear hp
          go_simp
          rfl
        refine Free.Seq.val ?_ (fun _ => Below.refl _ _) (fun a w1 hI hp => ?_) ?_
        rotate_left
        · have e55 := hp.backV 37 11 rfl rfl rfl rfl rfl; have e66 := hp.backV 48 0 rfl rfl rfl rfl rfl
          refine ⟨hp.want rfl rfl rfl e55, ?_⟩
          clear hp
          go_simp
          rfl
        refine Free.Seq.val ?_ (fun _ => Below.refl _ _) (fun a w1 hI hp => ?_) ?_
        rotate_left
        · have e55 := hp.backV 37 12 rfl rfl rfl rfl rfl; have e61 := hp.backV 43 6 rfl rfl rfl rfl rfl; have e67 := hp.backV 49 0 rfl rfl rfl rfl rfl
          refine ⟨hp.want rfl rfl rfl e55, ?_⟩
          clear hp
          go_simp
          rfl
        refine Free.Seq.val ?_ (fun _ => Below.refl _ _) (fun a w1 hI hp => ?_) ?_
        rotate_left
        · have e55 := hp.backV 37 13 rfl rfl rfl rfl rfl; have e68 := hp.backV 50 0 rfl rfl rfl rfl rfl
          refine ⟨Free.want_none rfl, ?_⟩
          clear hp
          go_simp
          rfl
        refine Free.Seq.done (by simp) (fun wz hIz => ?_)
        simp only [List.reverse_cons, List.reverse_nil, List.nil_append, List.cons_append, Free.All, Free.eqF, forall_eq]
        skip
        simp only [Free.putL, Act.put, List.setIfInBounds_toArray, List.set_cons_zero, List.set_cons_succ]
        have HBZ := Lib.hid (HB0.out.trans (hIz.mono HB0.out.size))
        clear hIz
        dsimp only [Exit.inBlock, Exit.then]
        go_wp2_with fail
        go_ret
        exact ⟨ret_bool (by rw [HN.out]), HBZ.out⟩
      have t3 : ((nx : Int) != (ny : Int)) = false := by simp; omega
      have HQ1 : Hid (R = (decide (xm.drop 0 = ym.drop 0) && decide (la.drop (k + 1) = lb.drop (k + 1)))) := by
        show R = _
        rw [HQ.out, ho, he, hu, List.drop_zero, List.drop_zero]
        congr 1
        rw [Bool.eq_iff_iff]
        simp
      clear hne ho he hu HQ
      go_wp2_with fail
      refine Free.wp_seq (I := fun w' => Below wr.heap.size wr w') (Gr := fun w1 w2 => Below w1.heap.size w1 w2) (by kernel_rfl) (by kernel_rfl) (Below.refl _ _).drew ?_
      refine Free.Seq.val ?_ (fun _ => Below.refl _ _) (fun a w1 hI hp => ?_) ?_
      rotate_left
      · have e0 := hp.slotV 0 (by kernel_rfl) rfl; simp at e0
        refine ⟨Free.want_none rfl, ?_⟩
        clear hp
        go_simp
        rfl
      refine Free.Seq.val ?_ (fun _ => Below.refl _ _) (fun a w1 hI hp => ?_) ?_
      rotate_left
      · have e5 := hp.slotV 5 (by kernel_rfl) rfl; simp at e5
        refine ⟨Free.want_none rfl, ?_⟩
        clear hp
        go_simp
        rfl
      refine Free.Seq.val ?_ (fun _ => Below.refl _ _) (fun a w1 hI hp => ?_) ?_
      rotate_left
      · have e18 := hp.backV 0 1 rfl rfl rfl rfl rfl; have e19 := hp.backV 1 0 rfl rfl rfl rfl rfl
        refine ⟨Free.want_none rfl, ?_⟩
        clear hp
        go_simp
        rfl
      refine Free.Seq.val ?_ (fun _ => Below.refl _ _) (fun a w1 hI hp => ?_) ?_
      rotate_left
      · have e20 := hp.backV 2 0 rfl rfl rfl rfl rfl
        refine ⟨Free.want_none rfl, ?_⟩
        clear hp
        go_simp
        rfl
      refine Free.Seq.val ?_ (fun _ => Below.refl _ _) (fun a w1 hI hp => ?_) ?_
      rotate_left
      · have e21 := hp.backV 3 0 rfl rfl rfl rfl rfl
        have kc0 := (hI.cell (p := ⟨b, off + k * 4, none⟩) hbl).trans c0
        refine ⟨Free.want_none rfl, ?_⟩
        clear hp
        go_simp
        rfl
      refine Free.Seq.val ?_ (fun _ => Below.refl _ _) (fun a w1 hI hp => ?_) ?_
      rotate_left
      · have e1 := hp.slotV 1 (by kernel_rfl) rfl; simp at e1
        refine ⟨Free.want_none rfl, ?_⟩
        clear hp
        go_simp
        rfl
      refine Free.Seq.val ?_ (fun _ => Below.refl _ _) (fun a w1 hI hp => ?_) ?_
      rotate_left
      · have e5 := hp.slotV 5 (by kernel_rfl) rfl; simp at e5
        refine ⟨Free.want_none rfl, ?_⟩
        clear hp
        go_simp
        rfl
      refine Free.Seq.val ?_ (fun _ => Below.refl _ _) (fun a w1 hI hp => ?_) ?_
      rotate_left
      · have e23 := hp.backV 5 1 rfl rfl rfl rfl rfl; have e24 := hp.backV 6 0 rfl rfl rfl rfl rfl
        refine ⟨Free.want_none rfl, ?_⟩
        clear hp
        go_simp
        rfl
      refine Free.Seq.val ?_ (fun _ => Below.refl _ _) (fun a w1 hI hp => ?_) ?_
      rotate_left
      · have e25 := hp.backV 7 0 rfl rfl rfl rfl rfl
        refine ⟨Free.want_none rfl, ?_⟩
        clear hp
        go_simp
        rfl
      refine Free.Seq.val ?_ (fun _ => Below.refl _ _) (fun a w1 hI hp => ?_) ?_
      rotate_left
      · have e26 := hp.backV 8 0 rfl rfl rfl rfl rfl
        have kd0 := (hI.cell (p := ⟨b', off' + k * 4, none⟩) hbl').trans d0
        refine ⟨Free.want_none rfl, ?_⟩
        clear hp
        go_simp
        rfl
      refine Free.Seq.val ?_ (fun _ => Below.refl _ _) (fun a w1 hI hp => ?_) ?_
      rotate_left
      · have e22 := hp.backV 4 5 rfl rfl rfl rfl rfl; have e27 := hp.backV 9 0 rfl rfl rfl rfl rfl
        refine ⟨Free.want_none rfl, ?_⟩
        clear hp
        go_simp
        rfl
      refine Free.Seq.val ?_ (fun _ => Below.refl _ _) (fun a w1 hI hp => ?_) ?_
      rotate_left
      · have e28 := hp.backV 10 0 rfl rfl rfl rfl rfl
        refine ⟨Free.want_none rfl, ?_⟩
        clear hp
        go_simp
        rfl
      refine Free.Seq.val ?_ (fun _ => Below.refl _ _) (fun a w1 hI hp => ?_) ?_
      rotate_left
      · have e29 := hp.backV 11 0 rfl rfl rfl rfl rfl; have e0 := hp.slotV 0 (by kernel_rfl) rfl; simp at e0
        refine ⟨hp.want rfl rfl rfl e29, ?_⟩
        clear hp
        go_simp
        rfl
      refine Free.Seq.val ?_ (fun _ => Below.refl _ _) (fun a w1 hI hp => ?_) ?_
      rotate_left
      · have e29 := hp.backV 11 1 rfl rfl rfl rfl rfl; have e5 := hp.slotV 5 (by kernel_rfl) rfl; simp at e5
        refine ⟨hp.want rfl rfl rfl e29, ?_⟩
        clear hp
        go_simp
        rfl
      refine Free.Seq.val ?_ (fun _ => Below.refl _ _) (fun a w1 hI hp => ?_) ?_
      rotate_left
      · have e29 := hp.backV 11 2 rfl rfl rfl rfl rfl; have e30 := hp.backV 12 1 rfl rfl rfl rfl rfl; have e31 := hp.backV 13 0 rfl rfl rfl rfl rfl
        refine ⟨hp.want rfl rfl rfl e29, ?_⟩
        clear hp
        go_simp
        rfl
      refine Free.Seq.val ?_ (fun _ => Below.refl _ _) (fun a w1 hI hp => ?_) ?_
      rotate_left
      · have e29 := hp.backV 11 3 rfl rfl rfl rfl rfl; have e32 := hp.backV 14 0 rfl rfl rfl rfl rfl
        refine ⟨hp.want rfl rfl rfl e29, ?_⟩
        clear hp
        go_simp
        rfl
      refine Free.Seq.val ?_ (fun _ => Below.refl _ _) (fun a w1 hI hp => ?_) ?_
      rotate_left
      · have e29 := hp.backV 11 4 rfl rfl rfl rfl rfl; have e33 := hp.backV 15 0 rfl rfl rfl rfl rfl
        have kc1 := (hI.cell (p := ⟨b, off + k * 4 + 1, none⟩) hbl).trans c1
        refine ⟨hp.want rfl rfl rfl e29, ?_⟩
        clear hp
        go_simp
        rfl
      refine Free.Seq.val ?_ (fun _ => Below.refl _ _) (fun a w1 hI hp => ?_) ?_
      rotate_left
      · have e29 := hp.backV 11 5 rfl rfl rfl rfl rfl; have e1 := hp.slotV 1 (by kernel_rfl) rfl; simp at e1
        refine ⟨hp.want rfl rfl rfl e29, ?_⟩
        clear hp
        go_simp
        rfl
      refine Free.Seq.val ?_ (fun _ => Below.refl _ _) (fun a w1 hI hp => ?_) ?_
      rotate_left
      · have e29 := hp.backV 11 6 rfl rfl rfl rfl rfl; have e5 := hp.slotV 5 (by kernel_rfl) rfl; simp at e5
        refine ⟨hp.want rfl rfl rfl e29, ?_⟩
        clear hp
        go_simp
        rfl
      refine Free.Seq.val ?_ (fun _ => Below.refl _ _) (fun a w1 hI hp => ?_) ?_
      rotate_left
      · have e29 := hp.backV 11 7 rfl rfl rfl rfl rfl; have e35 := hp.backV 17 1 rfl rfl rfl rfl rfl; have e36 := hp.backV 18 0 rfl rfl rfl rfl rfl
        refine ⟨hp.want rfl rfl rfl e29, ?_⟩
        clear hp
        go_simp
        rfl
      refine Free.Seq.val ?_ (fun _ => Below.refl _ _) (fun a w1 hI hp => ?_) ?_
      rotate_left
      · have e29 := hp.backV 11 8 rfl rfl rfl rfl rfl; have e37 := hp.backV 19 0 rfl rfl rfl rfl rfl
        refine ⟨hp.want rfl rfl rfl e29, ?_⟩
        clear hp
        go_simp
        rfl
      refine Free.Seq.val ?_ (fun _ => Below.refl _ _) (fun a w1 hI hp => ?_) ?_
      rotate_left
      · have e29 := hp.backV 11 9 rfl rfl rfl rfl rfl; have e38 := hp.backV 20 0 rfl rfl rfl rfl rfl
        have kd1 := (hI.cell (p := ⟨b', off' + k * 4 + 1, none⟩) hbl').trans d1
        refine ⟨hp.want rfl rfl rfl e29, ?_⟩
        clear hp
        go_simp
        rfl
      refine Free.Seq.val ?_ (fun _ => Below.refl _ _) (fun a w1 hI hp => ?_) ?_
      rotate_left
      · have e29 := hp.backV 11 10 rfl rfl rfl rfl rfl; have e34 := hp.backV 16 5 rfl rfl rfl rfl rfl; have e39 := hp.backV 21 0 rfl rfl rfl rfl rfl
        refine ⟨hp.want rfl rfl rfl e29, ?_⟩
        clear hp
        go_simp
        rfl
      refine Free.Seq.val ?_ (fun _ => Below.refl _ _) (fun a w1 hI hp => ?_) ?_
      rotate_left
      · have e29 := hp.backV 11 11 rfl rfl rfl rfl rfl; have e40 := hp.backV 22 0 rfl rfl rfl rfl rfl
        refine ⟨Free.want_none rfl, ?_⟩
        clear hp
        go_simp
        rfl
      refine Free.Seq.val ?_ (fun _ => Below.refl _ _) (fun a w1 hI hp => ?_) ?_
      rotate_left
      · have e41 := hp.backV 23 0 rfl rfl rfl rfl rfl
        refine ⟨Free.want_none rfl, ?_⟩
        clear hp
        go_simp
        rfl
      refine Free.Seq.val ?_ (fun _ => Below.refl _ _) (fun a w1 hI hp => ?_) ?_
      rotate_left
      · have e42 := hp.backV 24 0 rfl rfl rfl rfl rfl; have e0 := hp.slotV 0 (by kernel_rfl) rfl; simp at e0
        refine ⟨hp.want rfl rfl rfl e42, ?_⟩
        clear hp
        go_simp
        rfl
      refine Free.Seq.val ?_ (fun _ => Below.refl _ _) (fun a w1 hI hp => ?_) ?_
      rotate_left
      · have e42 := hp.backV 24 1 rfl rfl rfl rfl rfl; have e5 := hp.slotV 5 (by kernel_rfl) rfl; simp at e5
        refine ⟨hp.want rfl rfl rfl e42, ?_⟩
        clear hp
        go_simp
        rfl
      refine Free.Seq.val ?_ (fun _ => Below.refl _ _) (fun a w1 hI hp => ?_) ?_
      rotate_left
      · have e42 := hp.backV 24 2 rfl rfl rfl rfl rfl; have e43 := hp.backV 25 1 rfl rfl rfl rfl rfl; have e44 := hp.backV 26 0 rfl rfl rfl rfl rfl
        refine ⟨hp.want rfl rfl rfl e42, ?_⟩
        clear hp
        go_simp
        rfl
      refine Free.Seq.val ?_ (fun _ => Below.refl _ _) (fun a w1 hI hp => ?_) ?_
      rotate_left
      · have e42 := hp.backV 24 3 rfl rfl rfl rfl rfl; have e45 := hp.backV 27 0 rfl rfl rfl rfl rfl
        refine ⟨hp.want rfl rfl rfl e42, ?_⟩
        clear hp
        go_simp
        rfl
      refine Free.Seq.val ?_ (fun _ => Below.refl _ _) (fun a w1 hI hp => ?_) ?_
      rotate_left
      · have e42 := hp.backV 24 4 rfl rfl rfl rfl rfl; have e46 := hp.backV 28 0 rfl rfl rfl rfl rfl
        have kc2 := (hI.cell (p := ⟨b, off + k * 4 + 2, none⟩) hbl).trans c2
        refine ⟨hp.want rfl rfl rfl e42, ?_⟩
        clear hp
        go_simp
        rfl
      refine Free.Seq.val ?_ (fun _ => Below.refl _ _) (fun a w1 hI hp => ?_) ?_
      rotate_left
      · have e42 := hp.backV 24 5 rfl rfl rfl rfl rfl; have e1 := hp.slotV 1 (by kernel_rfl) rfl; simp at e1
        refine ⟨hp.want rfl rfl rfl e42, ?_⟩
        clear hp
        go_simp
        rfl
      refine Free.Seq.val ?_ (fun _ => Below.refl _ _) (fun a w1 hI hp => ?_) ?_
      rotate_left
      · have e42 := hp.backV 24 6 rfl rfl rfl rfl rfl; have e5 := hp.slotV 5 (by kernel_rfl) rfl; simp at e5
        refine ⟨hp.want rfl rfl rfl e42, ?_⟩
        clear hp
        go_simp
        rfl
      refine Free.Seq.val ?_ (fun _ => Below.refl _ _) (fun a w1 hI hp => ?_) ?_
      rotate_left
      · have e42 := hp.backV 24 7 rfl rfl rfl rfl rfl; have e48 := hp.backV 30 1 rfl rfl rfl rfl rfl; have e49 := hp.backV 31 0 rfl rfl rfl rfl rfl
        refine ⟨hp.want rfl rfl rfl e42, ?_⟩
        clear hp
        go_simp
        rfl
      refine Free.Seq.val ?_ (fun _ => Below.refl _ _) (fun a w1 hI hp => ?_) ?_
      rotate_left
      · have e42 := hp.backV 24 8 rfl rfl rfl rfl rfl; have e50 := hp.backV 32 0 rfl rfl rfl rfl rfl
        refine ⟨hp.want rfl rfl rfl e42, ?_⟩
        clear hp
        go_simp
        rfl
      refine Free.Seq.val ?_ (fun _ => Below.refl _ _) (fun a w1 hI hp => ?_) ?_
      rotate_left
      · have e42 := hp.backV 24 9 rfl rfl rfl rfl rfl; have e51 := hp.backV 33 0 rfl rfl rfl rfl rfl
        have kd2 := (hI.cell (p := ⟨b', off' + k * 4 + 2, none⟩) hbl').trans d2
        refine ⟨hp.want rfl rfl rfl e42, ?_⟩
        clear hp
        go_simp
        rfl
      refine Free.Seq.val ?_ (fun _ => Below.refl _ _) (fun a w1 hI hp => ?_) ?_
      rotate_left
      · have e42 := hp.backV 24 10 rfl rfl rfl rfl rfl; have e47 := hp.backV 29 5 rfl rfl rfl rfl rfl; have e52 := hp.backV 34 0 rfl rfl rfl rfl rfl
        refine ⟨hp.want rfl rfl rfl e42, ?_⟩
        clear hp
        go_simp
        rfl
      refine Free.Seq.val ?_ (fun _ => Below.refl _ _) (fun a w1 hI hp => ?_) ?_
      rotate_left
      · have e42 := hp.backV 24 11 rfl rfl rfl rfl rfl; have e53 := hp.backV 35 0 rfl rfl rfl rfl rfl
        refine ⟨Free.want_none rfl, ?_⟩
        clear hp
        go_simp
        rfl
      refine Free.Seq.val ?_ (fun _ => Below.refl _ _) (fun a w1 hI hp => ?_) ?_
      rotate_left
      · have e54 := hp.backV 36 0 rfl rfl rfl rfl rfl
        refine ⟨Free.want_none rfl, ?_⟩
        clear hp
        go_simp
        rfl
      refine Free.Seq.val ?_ (fun _ => Below.refl _ _) (fun a w1 hI hp => ?_) ?_
      rotate_left
      · have e55 := hp.backV 37 0 rfl rfl rfl rfl rfl; have e0 := hp.slotV 0 (by kernel_rfl) rfl; simp at e0
        refine ⟨hp.want rfl rfl rfl e55, ?_⟩
        clear hp
        go_simp
        rfl
      refine Free.Seq.val ?_ (fun _ => Below.refl _ _) (fun a w1 hI hp => ?_) ?_
      rotate_left
      · have e55 := hp.backV 37 1 rfl rfl rfl rfl rfl; have e5 := hp.slotV 5 (by kernel_rfl) rfl; simp at e5
        refine ⟨hp.want rfl rfl rfl e55, ?_⟩
        clear hp
        go_simp
        rfl
      refine Free.Seq.val ?_ (fun _ => Below.refl _ _) (fun a w1 hI hp => ?_) ?_
      rotate_left
      · have e55 := hp.backV 37 2 rfl rfl rfl rfl rfl; have e56 := hp.backV 38 1 rfl rfl rfl rfl rfl; have e57 := hp.backV 39 0 rfl rfl rfl rfl rfl
        refine ⟨hp.want rfl rfl rfl e55, ?_⟩
        clear hp
        go_simp
        rfl
      refine Free.Seq.val ?_ (fun _ => Below.refl _ _) (fun a w1 hI hp => ?_) ?_
      rotate_left
      · have e55 := hp.backV 37 3 rfl rfl rfl rfl rfl; have e58 := hp.backV 40 0 rfl rfl rfl rfl rfl
        refine ⟨hp.want rfl rfl rfl e55, ?_⟩
        clear hp
        go_simp
        rfl
      refine Free.Seq.val ?_ (fun _ => Below.refl _ _) (fun a w1 hI hp => ?_) ?_
      rotate_left
      · have e55 := hp.backV 37 4 rfl rfl rfl rfl rfl; have e59 := hp.backV 41 0 rfl rfl rfl rfl rfl
        have kc3 := (hI.cell (p := ⟨b, off + k * 4 + 3, none⟩) hbl).trans c3
        refine ⟨hp.want rfl rfl rfl e55, ?_⟩
        clear hp
        go_simp
        rfl
      refine Free.Seq.val ?_ (fun _ => Below.refl _ _) (fun a w1 hI hp => ?_) ?_
      rotate_left
      · have e55 := hp.backV 37 5 rfl rfl rfl rfl rfl; have e60 := hp.backV 42 0 rfl rfl rfl rfl rfl
        refine ⟨hp.want rfl rfl rfl e55, ?_⟩
        clear hp
        go_simp
        rfl
      refine Free.Seq.val ?_ (fun _ => Below.refl _ _) (fun a w1 hI hp => ?_) ?_
      rotate_left
      · have e55 := hp.backV 37 6 rfl rfl rfl rfl rfl; have e1 := hp.slotV 1 (by kernel_rfl) rfl; simp at e1
        refine ⟨hp.want rfl rfl rfl e55, ?_⟩
        clear hp
        go_simp
        rfl
      refine Free.Seq.val ?_ (fun _ => Below.refl _ _) (fun a w1 hI hp => ?_) ?_
      rotate_left
      · have e55 := hp.backV 37 7 rfl rfl rfl rfl rfl; have e5 := hp.slotV 5 (by kernel_rfl) rfl; simp at e5
        refine ⟨hp.want rfl rfl rfl e55, ?_⟩
        clear hp
        go_simp
        rfl
      refine Free.Seq.val ?_ (fun _ => Below.refl _ _) (fun a w1 hI hp => ?_) ?_
      rotate_left
      · have e55 := hp.backV 37 8 rfl rfl rfl rfl rfl; have e62 := hp.backV 44 1 rfl rfl rfl rfl rfl; have e63 := hp.backV 45 0 rfl rfl rfl rfl rfl
        refine ⟨hp.want rfl rfl rfl e55, ?_⟩
        clear hp
        go_simp
        rfl
      refine Free.Seq.val ?_ (fun _ => Below.refl _ _) (fun a w1 hI hp => ?_) ?_
      rotate_left
      · have e55 := hp.backV 37 9 rfl rfl rfl rfl rfl; have e64 := hp.backV 46 0 rfl rfl rfl rfl rfl
        refine ⟨hp.want rfl rfl rfl e55, ?_⟩
        clear hp
        go_simp
        rfl
      refine Free.Seq.val ?_ (fun _ => Below.refl _ _) (fun a w1 hI hp => ?_) ?_
      rotate_left
      · have e55 := hp.backV 37 10 rfl rfl rfl rfl rfl; have e65 := hp.backV 47 0 rfl rfl rfl rfl rfl
        have kd3 := (hI.cell (p := ⟨b', off' + k * 4 + 3, none⟩) hbl').trans d3
        refine ⟨hp.want rfl rfl rfl e55, ?_⟩
        clear hp
        go_simp
        rfl
      refine Free.Seq.val ?_ (fun _ => Below.refl _ _) (fun a w1 hI hp => ?_) ?_
      rotate_left
      · have e55 := hp.backV 37 11 rfl rfl rfl rfl rfl; have e66 := hp.backV 48 0 rfl rfl rfl rfl rfl
        refine ⟨hp.want rfl rfl rfl e55, ?_⟩
        clear hp
        go_simp
        rfl
      refine Free.Seq.val ?_ (fun _ => Below.refl _ _) (fun a w1 hI hp => ?_) ?_
      rotate_left
      · have e55 := hp.backV 37 12 rfl rfl rfl rfl rfl; have e61 := hp.backV 43 6 rfl rfl rfl rfl rfl; have e67 := hp.backV 49 0 rfl rfl rfl rfl rfl
        refine ⟨hp.want rfl rfl rfl e55, ?_⟩
        clear hp
        go_simp
        rfl
      refine Free.Seq.val ?_ (fun _ => Below.refl _ _) (fun a w1 hI hp => ?_) ?_
      rotate_left
      · have e55 := hp.backV 37 13 rfl rfl rfl rfl rfl; have e68 := hp.backV 50 0 rfl rfl rfl rfl rfl
        refine ⟨Free.want_none rfl, ?_⟩
        clear hp
        go_simp
        rfl
      refine Free.Seq.done (by simp) (fun wz hIz => ?_)
      simp only [List.reverse_cons, List.reverse_nil, List.nil_append, List.cons_append, Free.All, Free.eqF, forall_eq]
      skip
      simp only [Free.putL, Act.put, List.setIfInBounds_toArray, List.set_cons_zero, List.set_cons_succ]
      have HIZ := Lib.hid hIz
      have HBZ := Lib.hid (HB0.out.trans (hIz.mono HB0.out.size))
      clear hIz t0 t1 t2 t3
      dsimp only [Exit.inBlock, Exit.then]
      go_wp2_with fail
      go_loopw [6] (fun i wq => ∃ j : Nat, i = .int .i64 j ∧ j ≤ nx ∧ Hid (R = (decide (xm.drop j = ym.drop j) && decide (la.drop (k + 1) = lb.drop (k + 1))) ∧ Below w.heap.size w wq ∧ Below wr.heap.size wr wq)) (fun i _ => nx - (intOf i).toNat)
      case atStart => exact ⟨0, rfl, Nat.zero_le _, HQ1.out, HBZ.out, HIZ.out⟩
      case round =>
        obtain ⟨j, rfl, hj, hq, hb1, hb2⟩ := hrel
        have HQ := Lib.hid hq
        have HB1 := Lib.hid hb1
        have HB2 := Lib.hid hb2
        have c3 := (hb2.cell (p := ⟨b, off + k * 4 + 3, none⟩) hbl).trans c3
        have d3 := (hb2.cell (p := ⟨b', off' + k * 4 + 3, none⟩) hbl').trans d3
        have hbl := Nat.lt_of_lt_of_le hbl hb2.size
        have hbl' := Nat.lt_of_lt_of_le hbl' hb2.size
        clear hq hb1 hb2
        by_cases hlt2 : j < nx
        · obtain ⟨bx, ox, x, cs, rfl, hBx, hbxl, hx, hcs, hlen, hcell⟩ := (HRX.out.below keeps_int HB2.out).at' hlt2
          unfold EInt at hcs
          subst hcs
          have c9 := hcell 0 _ rfl
          rw [Nat.mul_one, Nat.add_zero] at c9
          obtain ⟨by_, oy, y, cs, rfl, hBy, hbyl, hy, hcs, hlen', hcell'⟩ := (HRY.out.below keeps_int HB2.out).at' (by omega : j < ny)
          unfold EInt at hcs
          subst hcs
          have d9 := hcell' 0 _ rfl
          rw [Nat.mul_one, Nat.add_zero] at d9
          rw [drop_same hx hy] at HQ
          have hjb : j < 281474976710656 := by omega
          have hj0 : (0 : Int) ≤ (j : Int) := by omega
          have hj1 : (j : Int) < (nx : Int) := by omega
          have hj2 : (j : Int) < (ny : Int) := by omega
          clear hcell hcell' hlen hlen' hx hy
          go_wp2_with fail
          refine Free.wp_seq (I := fun w' => Below wr.heap.size wr w') (Gr := fun w1 w2 => Below w1.heap.size w1 w2) (by kernel_rfl) (by kernel_rfl) (Below.refl _ _).drew ?_
          refine Free.Seq.val ?_ (fun _ => Below.refl _ _) (fun a w1 hI hp => ?_) ?_
          rotate_left
          · have e0 := hp.slotV 0 (by kernel_rfl) rfl; simp at e0
            refine ⟨Free.want_none rfl, ?_⟩
            clear hp
            go_simp
            rfl
          refine Free.Seq.val ?_ (fun _ => Below.refl _ _) (fun a w1 hI hp => ?_) ?_
          rotate_left
          · have e5 := hp.slotV 5 (by kernel_rfl) rfl; simp at e5
            refine ⟨Free.want_none rfl, ?_⟩
            clear hp
            go_simp
            rfl
          refine Free.Seq.val ?_ (fun _ => Below.refl _ _) (fun a w1 hI hp => ?_) ?_
          rotate_left
          · have e80 := hp.backV 0 1 rfl rfl rfl rfl rfl; have e81 := hp.backV 1 0 rfl rfl rfl rfl rfl
            refine ⟨Free.want_none rfl, ?_⟩
            clear hp
            go_simp
            rfl
          refine Free.Seq.val ?_ (fun _ => Below.refl _ _) (fun a w1 hI hp => ?_) ?_
          rotate_left
          · have e82 := hp.backV 2 0 rfl rfl rfl rfl rfl
            refine ⟨Free.want_none rfl, ?_⟩
            clear hp
            go_simp
            rfl
          refine Free.Seq.val ?_ (fun _ => Below.refl _ _) (fun a w1 hI hp => ?_) ?_
          rotate_left
          · have e83 := hp.backV 3 0 rfl rfl rfl rfl rfl
            have kc3 := (hI.cell (p := ⟨b, off + k * 4 + 3, none⟩) hbl).trans c3
            refine ⟨Free.want_none rfl, ?_⟩
            clear hp
            go_simp
            rfl
          refine Free.Seq.val ?_ (fun _ => Below.refl _ _) (fun a w1 hI hp => ?_) ?_
          rotate_left
          · have e6 := hp.slotV 6 (by kernel_rfl) rfl; simp at e6
            refine ⟨Free.want_none rfl, ?_⟩
            clear hp
            go_simp
            rfl
          refine Free.Seq.val ?_ (fun _ => Below.refl _ _) (fun a w1 hI hp => ?_) ?_
          rotate_left
          · have e84 := hp.backV 4 1 rfl rfl rfl rfl rfl; have e85 := hp.backV 5 0 rfl rfl rfl rfl rfl
            refine ⟨Free.want_none rfl, ?_⟩
            clear hp
            go_simp
            rfl
          refine Free.Seq.val ?_ (fun _ => Below.refl _ _) (fun a w1 hI hp => ?_) ?_
          rotate_left
          · have e86 := hp.backV 6 0 rfl rfl rfl rfl rfl
            have kc9 := (hI.cell (p := ⟨bx, ox + j, none⟩) hbxl).trans c9
            refine ⟨Free.want_none rfl, ?_⟩
            clear hp
            go_simp
            rfl
          refine Free.Seq.val ?_ (fun _ => Below.refl _ _) (fun a w1 hI hp => ?_) ?_
          rotate_left
          · have e1 := hp.slotV 1 (by kernel_rfl) rfl; simp at e1
            refine ⟨Free.want_none rfl, ?_⟩
            clear hp
            go_simp
            rfl
          refine Free.Seq.val ?_ (fun _ => Below.refl _ _) (fun a w1 hI hp => ?_) ?_
          rotate_left
          · have e5 := hp.slotV 5 (by kernel_rfl) rfl; simp at e5
            refine ⟨Free.want_none rfl, ?_⟩
            clear hp
            go_simp
            rfl
          refine Free.Seq.val ?_ (fun _ => Below.refl _ _) (fun a w1 hI hp => ?_) ?_
          rotate_left
          · have e88 := hp.backV 8 1 rfl rfl rfl rfl rfl; have e89 := hp.backV 9 0 rfl rfl rfl rfl rfl
            refine ⟨Free.want_none rfl, ?_⟩
            clear hp
            go_simp
            rfl
          refine Free.Seq.val ?_ (fun _ => Below.refl _ _) (fun a w1 hI hp => ?_) ?_
          rotate_left
          · have e90 := hp.backV 10 0 rfl rfl rfl rfl rfl
            refine ⟨Free.want_none rfl, ?_⟩
            clear hp
            go_simp
            rfl
          refine Free.Seq.val ?_ (fun _ => Below.refl _ _) (fun a w1 hI hp => ?_) ?_
          rotate_left
          · have e91 := hp.backV 11 0 rfl rfl rfl rfl rfl
            have kd3 := (hI.cell (p := ⟨b', off' + k * 4 + 3, none⟩) hbl').trans d3
            refine ⟨Free.want_none rfl, ?_⟩
            clear hp
            go_simp
            rfl
          refine Free.Seq.val ?_ (fun _ => Below.refl _ _) (fun a w1 hI hp => ?_) ?_
          rotate_left
          · have e6 := hp.slotV 6 (by kernel_rfl) rfl; simp at e6
            refine ⟨Free.want_none rfl, ?_⟩
            clear hp
            go_simp
            rfl
          refine Free.Seq.val ?_ (fun _ => Below.refl _ _) (fun a w1 hI hp => ?_) ?_
          rotate_left
          · have e92 := hp.backV 12 1 rfl rfl rfl rfl rfl; have e93 := hp.backV 13 0 rfl rfl rfl rfl rfl
            refine ⟨Free.want_none rfl, ?_⟩
            clear hp
            go_simp
            rfl
          refine Free.Seq.val ?_ (fun _ => Below.refl _ _) (fun a w1 hI hp => ?_) ?_
          rotate_left
          · have e94 := hp.backV 14 0 rfl rfl rfl rfl rfl
            have kd9 := (hI.cell (p := ⟨by_, oy + j, none⟩) hbyl).trans d9
            refine ⟨Free.want_none rfl, ?_⟩
            clear hp
            go_simp
            rfl
          refine Free.Seq.val ?_ (fun _ => Below.refl _ _) (fun a w1 hI hp => ?_) ?_
          rotate_left
          · have e87 := hp.backV 7 8 rfl rfl rfl rfl rfl; have e95 := hp.backV 15 0 rfl rfl rfl rfl rfl
            refine ⟨Free.want_none rfl, ?_⟩
            clear hp
            go_simp
            rfl
          refine Free.Seq.done (by simp) (fun wz hIz => ?_)
          simp only [List.reverse_cons, List.reverse_nil, List.nil_append, List.cons_append, Free.All, Free.eqF, forall_eq]
          skip
          simp only [Free.putL, Act.put, List.setIfInBounds_toArray, List.set_cons_zero, List.set_cons_succ]
          have HB3 := Lib.hid (HB1.out.trans (hIz.mono HB1.out.size))
          have HB4 := Lib.hid (HB2.out.trans (hIz.mono HB2.out.size))
          clear hIz c3 d3 c9 d9
          dsimp only [Exit.inBlock, Exit.then]
          by_cases hxy : x = y
          · have t9 : (x != y) = false := by simpa using hxy
            have hq2 : R = (decide (xm.drop (j + 1) = ym.drop (j + 1)) && decide (la.drop (k + 1) = lb.drop (k + 1))) := by
              rw [HQ.out, hxy]
              simp
            have HQ2 := Lib.hid hq2
            clear hxy hq2
            go_wp2_with fail
            exact ⟨⟨j + 1, by simp, by omega, HQ2.out, HB3.out, HB4.out⟩, by simp only [intOf]; omega⟩
          · have t9 : (x != y) = true := by simpa using hxy
            have hq2 : R = false := by
              rw [HQ.out, decide_eq_false hxy]
              simp
            have HQ2 := Lib.hid hq2
            clear hxy hq2
            go_wp2_with fail
            go_ret
            exact ⟨ret_bool (by rw [HQ2.out]), HB3.out⟩
        · have hjn : j = nx := by omega
          subst hjn
          have hq2 : R = decide (la.drop (k + 1) = lb.drop (k + 1)) := by
            rw [HQ.out, drop_done HNX.out.symm (by rw [← HNY.out]; exact hl.symm), Bool.true_and]
          have HQ2 := Lib.hid hq2
          clear hq2 HQ HQ1
          go_wp2_with fail
          exact ⟨⟨k + 1, by simp, by omega, HQ2.out, HB1.out⟩, by simp only [intOf]; omega⟩
    · have hk2 : k = n := by omega
      subst hk2
      go_wp2_with fail
      go_ret
      exact ⟨ret_bool (by rw [HQ.out]; exact (drop_done HLA.out HLB.out).symm), HB0.out⟩
set_option maxRecDepth 100000 in
set_option maxHeartbeats 8000000 in
theorem rsamestate_any (s1 s2 : St) (v1 v2 : Sv) (B1 B2 : Nat) (w : World) (h1 : RdS w B1 v1 s1) (h2 : RdS w B2 v2 s2) :
    Calls Try.prog 14 #[stv s1 v1, stv s2 v2] w fun e w' => e = .returned (.bool (decide (s1 = s2))) ∧ Below w.heap.size w w' := by
  obtain ⟨R, hR⟩ : ∃ R, R = decide (s1 = s2) := ⟨_, rfl⟩
  rw [← hR]
  have H1 := Lib.hid h1
  have H2 := Lib.hid h2
  have hl1 := h1.nx.len
  have hl2 := h2.nx.len
  have hbig := h1.nx.big
  clear h1 h2
  obtain ⟨self, ep, nx, hd, sn⟩ := s1
  obtain ⟨self', ep', nx', hd', sn'⟩ := s2
  obtain ⟨A1, n1, c1, A2, n2, c2, A3, n3, c3⟩ := v1
  obtain ⟨A1', n1', c1', A2', n2', c2', A3', n3', c3'⟩ := v2
  unfold stv
  simp only at hl1 hl2 hbig
  have hrr : R = (decide (self = self') && (decide (ep = ep') && (decide (nx = nx') && (decide (hd = hd') && decide (sn = sn'))))) := by
    rw [hR, Bool.eq_iff_iff]
    simp
  have HR := Lib.hid hrr
  have HL1 := Lib.hid hl1
  have HL2 := Lib.hid hl2
  clear hR hrr hl1 hl2
  go_enter Try.func14, Try.ntmps14
  by_cases ho : self = self'
  rotate_left
  · have t0 : (self != self') = true := by simpa using ho
    have hr : R = false := by rw [HR.out, decide_eq_false ho, Bool.false_and]
    have HR0 := Lib.hid hr
    clear ho hr
    go_wp2_with fail
    go_ret
    exact ⟨ret_bool (by rw [HR0.out]), ((Below.refl _ _).alloc (Nat.le_refl _) _).alloc (by simp) _⟩
  have t0 : (self != self') = false := by simpa using ho
  by_cases he : ep = ep'
  rotate_left
  · have t1 : (ep != ep') = true := by simpa using he
    have hr : R = false := by rw [HR.out, decide_eq_false he, Bool.false_and, Bool.and_false]
    have HR0 := Lib.hid hr
    clear ho he hr
    go_wp2_with fail
    go_ret
    exact ⟨ret_bool (by rw [HR0.out]), ((Below.refl _ _).alloc (Nat.le_refl _) _).alloc (by simp) _⟩
  have t1 : (ep != ep') = false := by simpa using he
  by_cases hn : n1 = n1'
  rotate_left
  · have t2 : ((n1 : Int) != (n1' : Int)) = true := by simp; omega
    have hr : R = false := by
      rw [HR.out, decide_eq_false (show ¬ nx = nx' from fun h => hn (by rw [← HL1.out, ← HL2.out, h]))]
      simp
    have HR0 := Lib.hid hr
    clear ho he hn hr
    go_wp2_with fail
    go_ret
    exact ⟨ret_bool (by rw [HR0.out]), ((Below.refl _ _).alloc (Nat.le_refl _) _).alloc (by simp) _⟩
  have t2 : ((n1 : Int) != (n1' : Int)) = false := by simp; omega
  have hq0 : R = (decide (nx.drop 0 = nx'.drop 0) && (decide (hd = hd') && decide (sn = sn'))) := by
    rw [HR.out, decide_eq_true ho, decide_eq_true he, List.drop_zero, List.drop_zero, Bool.true_and, Bool.true_and]
  have HQ0 := Lib.hid hq0
  have HNN := Lib.hid hn
  clear ho he hn hq0 HR
  go_wp2_with fail
  obtain ⟨W, hW⟩ : ∃ W, W = (w.alloc (.cells #[.int .i64 self, .int .i64 ep, .slice A1 n1 c1, .slice A2 n2 c2, .slice A3 n3 c3] 26)).alloc (.cells #[.int .i64 self', .int .i64 ep', .slice A1' n1' c1', .slice A2' n2' c2', .slice A3' n3' c3'] 26) := ⟨_, rfl⟩
  rw [← hW]
  have hz : w.heap.size + 1 < W.heap.size := by rw [hW]; simp
  have g1 : W.heap[w.heap.size]? = some (.cells #[.int .i64 self, .int .i64 ep, .slice A1 n1 c1, .slice A2 n2 c2, .slice A3 n3 c3] 26 (0, 0)) := by rw [hW]; exact (Below.heap_alloc _ _ _ (by simp)).trans (heap_alloc_new w _)
  have g2 : W.heap[w.heap.size + 1]? = some (.cells #[.int .i64 self', .int .i64 ep', .slice A1' n1' c1', .slice A2' n2' c2', .slice A3' n3' c3'] 26 (0, 0)) := by
    rw [hW]
    have := heap_alloc_new (w.alloc (.cells #[.int .i64 self, .int .i64 ep, .slice A1 n1 c1, .slice A2 n2 c2, .slice A3 n3 c3] 26)) (.cells #[.int .i64 self', .int .i64 ep', .slice A1' n1' c1', .slice A2' n2' c2', .slice A3' n3' c3'] 26)
    rwa [World.size_alloc] at this
  have HB0 : Hid (Below w.heap.size w W) := by show Below _ _ _; rw [hW]; exact ((Below.refl _ _).alloc (Nat.le_refl _) _).alloc (by simp) _
  have G1 := Lib.hid g1
  have G2 := Lib.hid g2
  clear hW g1 g2 t0 t1 t2
  go_loopw [5] (fun i wr => ∃ k : Nat, i = .int .i64 k ∧ k ≤ n1 ∧ Hid (R = (decide (nx.drop k = nx'.drop k) && (decide (hd = hd') && decide (sn = sn'))) ∧ Below W.heap.size W wr)) (fun i _ => n1 - (intOf i).toNat)
  case atStart => exact ⟨0, rfl, Nat.zero_le _, HQ0.out, Below.refl _ _⟩
  case round =>
    obtain ⟨k, rfl, hk, hq, hb⟩ := hrel
    have HQ := Lib.hid hq
    have hzr := hb.size
    have HBr := Lib.hid (HB0.out.trans (hb.mono (by omega)))
    have G1 := Lib.hid ((hb.block w.heap.size (by omega)).trans G1.out)
    have G2 := Lib.hid ((hb.block (w.heap.size + 1) (by omega)).trans G2.out)
    have HBW := Lib.hid hb
    clear hq hb
    by_cases hlt : k < n1
    · obtain ⟨b, off, x, cs, rfl, hBb, hbl, hx, hcs, hlen, hcell⟩ := (H1.out.nx.below keeps_nx HBr.out).at' hlt
      unfold ENx at hcs
      subst hcs
      have c0 := hcell 0 _ rfl
      have c1 := hcell 1 _ rfl
      rw [Nat.add_zero] at c0
      obtain ⟨b', off', y, cs', rfl, hBb', hbl', hy, hcs', hlen', hcell'⟩ := (H2.out.nx.below keeps_nx HBr.out).at' (show k < n1' by rw [← HNN.out]; exact hlt)
      unfold ENx at hcs'
      subst hcs'
      have d0 := hcell' 0 _ rfl
      have d1 := hcell' 1 _ rfl
      rw [Nat.add_zero] at d0
      rw [drop_same hx hy] at HQ
      have a2 := cell_of_cells G1.out 2
      have b2 := cell_of_cells G2.out 2
      simp at a2 b2
      obtain ⟨xd, xc⟩ := x
      obtain ⟨yd, yc⟩ := y
      simp only at c0 c1 d0 d1
      have hkb : k < 281474976710656 := by omega
      have hk0 : (0 : Int) ≤ (k : Int) := by omega
      have hk1 : (k : Int) < (n1 : Int) := by omega
      have hk2 : (k : Int) < (n1' : Int) := by rw [← HNN.out]; exact hk1
      have hp1 : w.heap.size < wr.heap.size := by omega
      have hp2 : w.heap.size + 1 < wr.heap.size := by omega
      clear hcell hcell' hlen hlen' hx hy
      go_wp2_with fail
      by_cases hxy : xd = yd ∧ xc = yc
      · obtain ⟨rfl, rfl⟩ := hxy
        have hq2 : R = (decide (nx.drop (k + 1) = nx'.drop (k + 1)) && (decide (hd = hd') && decide (sn = sn'))) := by
          rw [HQ.out]
          simp
        have HQ2 := Lib.hid hq2
        clear hq2
        refine Free.wp_seq (I := fun w' => Below wr.heap.size wr w') (Gr := fun w1 w2 => Below w1.heap.size w1 w2) (by kernel_rfl) (by kernel_rfl) (Below.refl _ _).drew ?_
        refine Free.Seq.val ?_ (fun _ => Below.refl _ _) (fun a w1 hI hp => ?_) ?_
        rotate_left
        · have e2 := hp.slotV 2 (by kernel_rfl) rfl; simp at e2
          refine ⟨Free.want_none rfl, ?_⟩
          clear hp
          go_simp
          rfl
        refine Free.Seq.val ?_ (fun _ => Below.refl _ _) (fun a w1 hI hp => ?_) ?_
        rotate_left
        · have e34 := hp.backV 0 0 rfl rfl rfl rfl rfl
          have ka2 := (hI.cell (p := ⟨w.heap.size, 2, none⟩) hp1).trans a2
          refine ⟨Free.want_none rfl, ?_⟩
          clear hp
          go_simp
          rfl
        refine Free.Seq.val ?_ (fun _ => Below.refl _ _) (fun a w1 hI hp => ?_) ?_
        rotate_left
        · have e5 := hp.slotV 5 (by kernel_rfl) rfl; simp at e5
          refine ⟨Free.want_none rfl, ?_⟩
          clear hp
          go_simp
          rfl
        refine Free.Seq.val ?_ (fun _ => Below.refl _ _) (fun a w1 hI hp => ?_) ?_
        rotate_left
        · have e35 := hp.backV 1 1 rfl rfl rfl rfl rfl; have e36 := hp.backV 2 0 rfl rfl rfl rfl rfl
          refine ⟨Free.want_none rfl, ?_⟩
          clear hp
          go_simp
          rfl
        refine Free.Seq.val ?_ (fun _ => Below.refl _ _) (fun a w1 hI hp => ?_) ?_
        rotate_left
        · have e37 := hp.backV 3 0 rfl rfl rfl rfl rfl
          have kc0 := (hI.cell (p := ⟨b, off + k * 2, none⟩) hbl).trans c0
          have kc1 := (hI.cell (p := ⟨b, off + k * 2 + 1, none⟩) hbl).trans c1
          refine ⟨Free.want_none rfl, ?_⟩
          clear hp
          go_simp
          rfl
        refine Free.Seq.val ?_ (fun _ => Below.refl _ _) (fun a w1 hI hp => ?_) ?_
        rotate_left
        · have e3 := hp.slotV 3 (by kernel_rfl) rfl; simp at e3
          refine ⟨Free.want_none rfl, ?_⟩
          clear hp
          go_simp
          rfl
        refine Free.Seq.val ?_ (fun _ => Below.refl _ _) (fun a w1 hI hp => ?_) ?_
        rotate_left
        · have e39 := hp.backV 5 0 rfl rfl rfl rfl rfl
          have kb2 := (hI.cell (p := ⟨w.heap.size + 1, 2, none⟩) hp2).trans b2
          refine ⟨Free.want_none rfl, ?_⟩
          clear hp
          go_simp
          rfl
        refine Free.Seq.val ?_ (fun _ => Below.refl _ _) (fun a w1 hI hp => ?_) ?_
        rotate_left
        · have e5 := hp.slotV 5 (by kernel_rfl) rfl; simp at e5
          refine ⟨Free.want_none rfl, ?_⟩
          clear hp
          go_simp
          rfl
        refine Free.Seq.val ?_ (fun _ => Below.refl _ _) (fun a w1 hI hp => ?_) ?_
        rotate_left
        · have e40 := hp.backV 6 1 rfl rfl rfl rfl rfl; have e41 := hp.backV 7 0 rfl rfl rfl rfl rfl
          refine ⟨Free.want_none rfl, ?_⟩
          clear hp
          go_simp
          rfl
        refine Free.Seq.val ?_ (fun _ => Below.refl _ _) (fun a w1 hI hp => ?_) ?_
        rotate_left
        · have e42 := hp.backV 8 0 rfl rfl rfl rfl rfl
          have kd0 := (hI.cell (p := ⟨b', off' + k * 2, none⟩) hbl').trans d0
          have kd1 := (hI.cell (p := ⟨b', off' + k * 2 + 1, none⟩) hbl').trans d1
          refine ⟨Free.want_none rfl, ?_⟩
          clear hp
          go_simp
          rfl
        refine Free.Seq.val ?_ (fun _ => Below.refl _ _) (fun a w1 hI hp => ?_) ?_
        rotate_left
        · have e38 := hp.backV 4 5 rfl rfl rfl rfl rfl; have e43 := hp.backV 9 0 rfl rfl rfl rfl rfl
          refine ⟨Free.want_none rfl, ?_⟩
          clear hp
          go_simp
          rfl
        refine Free.Seq.done (by simp) (fun wz hIz => ?_)
        simp only [List.reverse_cons, List.reverse_nil, List.nil_append, List.cons_append, Free.All, Free.eqF, forall_eq]
        skip
        simp only [Free.putL, Act.put, List.setIfInBounds_toArray, List.set_cons_zero, List.set_cons_succ]
        have HB3 := Lib.hid (HBW.out.trans (hIz.mono (by omega)))
        clear hIz a2 b2 c0 c1 d0 d1
        dsimp only [Exit.inBlock, Exit.then]
        go_wp2_with fail
        exact ⟨⟨k + 1, by simp, by omega, HQ2.out, HB3.out⟩, by simp only [intOf]; omega⟩
      · have hr : R = false := by
          rw [HQ.out, decide_eq_false (show ¬ (⟨xd, xc⟩ : Nx) = ⟨yd, yc⟩ from fun e => hxy (by injection e with e1 e2; exact ⟨e1, e2⟩))]
          simp
        have HR0 := Lib.hid hr
        clear hr HQ
        by_cases hd1 : xd = yd
        · have hd2 : ¬ xc = yc := fun e => hxy ⟨hd1, e⟩
          subst hd1
          have hd3 : (xc == yc) = false := by simpa using hd2
          clear hxy
          refine Free.wp_seq (I := fun w' => Below wr.heap.size wr w') (Gr := fun w1 w2 => Below w1.heap.size w1 w2) (by kernel_rfl) (by kernel_rfl) (Below.refl _ _).drew ?_
          refine Free.Seq.val ?_ (fun _ => Below.refl _ _) (fun a w1 hI hp => ?_) ?_
          rotate_left
          · have e2 := hp.slotV 2 (by kernel_rfl) rfl; simp at e2
            refine ⟨Free.want_none rfl, ?_⟩
            clear hp
            go_simp
            rfl
          refine Free.Seq.val ?_ (fun _ => Below.refl _ _) (fun a w1 hI hp => ?_) ?_
          rotate_left
          · have e34 := hp.backV 0 0 rfl rfl rfl rfl rfl
            have ka2 := (hI.cell (p := ⟨w.heap.size, 2, none⟩) hp1).trans a2
            refine ⟨Free.want_none rfl, ?_⟩
            clear hp
            go_simp
            rfl
          refine Free.Seq.val ?_ (fun _ => Below.refl _ _) (fun a w1 hI hp => ?_) ?_
          rotate_left
          · have e5 := hp.slotV 5 (by kernel_rfl) rfl; simp at e5
            refine ⟨Free.want_none rfl, ?_⟩
            clear hp
            go_simp
            rfl
          refine Free.Seq.val ?_ (fun _ => Below.refl _ _) (fun a w1 hI hp => ?_) ?_
          rotate_left
          · have e35 := hp.backV 1 1 rfl rfl rfl rfl rfl; have e36 := hp.backV 2 0 rfl rfl rfl rfl rfl
            refine ⟨Free.want_none rfl, ?_⟩
            clear hp
            go_simp
            rfl
          refine Free.Seq.val ?_ (fun _ => Below.refl _ _) (fun a w1 hI hp => ?_) ?_
          rotate_left
          · have e37 := hp.backV 3 0 rfl rfl rfl rfl rfl
            have kc0 := (hI.cell (p := ⟨b, off + k * 2, none⟩) hbl).trans c0
            have kc1 := (hI.cell (p := ⟨b, off + k * 2 + 1, none⟩) hbl).trans c1
            refine ⟨Free.want_none rfl, ?_⟩
            clear hp
            go_simp
            rfl
          refine Free.Seq.val ?_ (fun _ => Below.refl _ _) (fun a w1 hI hp => ?_) ?_
          rotate_left
          · have e3 := hp.slotV 3 (by kernel_rfl) rfl; simp at e3
            refine ⟨Free.want_none rfl, ?_⟩
            clear hp
            go_simp
            rfl
          refine Free.Seq.val ?_ (fun _ => Below.refl _ _) (fun a w1 hI hp => ?_) ?_
          rotate_left
          · have e39 := hp.backV 5 0 rfl rfl rfl rfl rfl
            have kb2 := (hI.cell (p := ⟨w.heap.size + 1, 2, none⟩) hp2).trans b2
            refine ⟨Free.want_none rfl, ?_⟩
            clear hp
            go_simp
            rfl
          refine Free.Seq.val ?_ (fun _ => Below.refl _ _) (fun a w1 hI hp => ?_) ?_
          rotate_left
          · have e5 := hp.slotV 5 (by kernel_rfl) rfl; simp at e5
            refine ⟨Free.want_none rfl, ?_⟩
            clear hp
            go_simp
            rfl
          refine Free.Seq.val ?_ (fun _ => Below.refl _ _) (fun a w1 hI hp => ?_) ?_
          rotate_left
          · have e40 := hp.backV 6 1 rfl rfl rfl rfl rfl; have e41 := hp.backV 7 0 rfl rfl rfl rfl rfl
            refine ⟨Free.want_none rfl, ?_⟩
            clear hp
            go_simp
            rfl
          refine Free.Seq.val ?_ (fun _ => Below.refl _ _) (fun a w1 hI hp => ?_) ?_
          rotate_left
          · have e42 := hp.backV 8 0 rfl rfl rfl rfl rfl
            have kd0 := (hI.cell (p := ⟨b', off' + k * 2, none⟩) hbl').trans d0
            have kd1 := (hI.cell (p := ⟨b', off' + k * 2 + 1, none⟩) hbl').trans d1
            refine ⟨Free.want_none rfl, ?_⟩
            clear hp
            go_simp
            rfl
          refine Free.Seq.val ?_ (fun _ => Below.refl _ _) (fun a w1 hI hp => ?_) ?_
          rotate_left
          · have e38 := hp.backV 4 5 rfl rfl rfl rfl rfl; have e43 := hp.backV 9 0 rfl rfl rfl rfl rfl
            refine ⟨Free.want_none rfl, ?_⟩
            clear hp
            go_simp
            rfl
          refine Free.Seq.done (by simp) (fun wz hIz => ?_)
          simp only [List.reverse_cons, List.reverse_nil, List.nil_append, List.cons_append, Free.All, Free.eqF, forall_eq]
          skip
          simp only [Free.putL, Act.put, List.setIfInBounds_toArray, List.set_cons_zero, List.set_cons_succ]
          have HB3 := Lib.hid (HBr.out.trans (hIz.mono (by omega)))
          clear hIz a2 b2 c0 c1 d0 d1
          dsimp only [Exit.inBlock, Exit.then]
          go_wp2_with fail
          go_ret
          exact ⟨ret_bool (by rw [HR0.out]), HB3.out⟩
        · have hd3 : (xd == yd) = false := by simpa using hd1
          clear hxy
          refine Free.wp_seq (I := fun w' => Below wr.heap.size wr w') (Gr := fun w1 w2 => Below w1.heap.size w1 w2) (by kernel_rfl) (by kernel_rfl) (Below.refl _ _).drew ?_
          refine Free.Seq.val ?_ (fun _ => Below.refl _ _) (fun a w1 hI hp => ?_) ?_
          rotate_left
          · have e2 := hp.slotV 2 (by kernel_rfl) rfl; simp at e2
            refine ⟨Free.want_none rfl, ?_⟩
            clear hp
            go_simp
            rfl
          refine Free.Seq.val ?_ (fun _ => Below.refl _ _) (fun a w1 hI hp => ?_) ?_
          rotate_left
          · have e34 := hp.backV 0 0 rfl rfl rfl rfl rfl
            have ka2 := (hI.cell (p := ⟨w.heap.size, 2, none⟩) hp1).trans a2
            refine ⟨Free.want_none rfl, ?_⟩
            clear hp
            go_simp
            rfl
          refine Free.Seq.val ?_ (fun _ => Below.refl _ _) (fun a w1 hI hp => ?_) ?_
          rotate_left
          · have e5 := hp.slotV 5 (by kernel_rfl) rfl; simp at e5
            refine ⟨Free.want_none rfl, ?_⟩
            clear hp
            go_simp
            rfl
          refine Free.Seq.val ?_ (fun _ => Below.refl _ _) (fun a w1 hI hp => ?_) ?_
          rotate_left
          · have e35 := hp.backV 1 1 rfl rfl rfl rfl rfl; have e36 := hp.backV 2 0 rfl rfl rfl rfl rfl
            refine ⟨Free.want_none rfl, ?_⟩
            clear hp
            go_simp
            rfl
          refine Free.Seq.val ?_ (fun _ => Below.refl _ _) (fun a w1 hI hp => ?_) ?_
          rotate_left
          · have e37 := hp.backV 3 0 rfl rfl rfl rfl rfl
            have kc0 := (hI.cell (p := ⟨b, off + k * 2, none⟩) hbl).trans c0
            have kc1 := (hI.cell (p := ⟨b, off + k * 2 + 1, none⟩) hbl).trans c1
            refine ⟨Free.want_none rfl, ?_⟩
            clear hp
            go_simp
            rfl
          refine Free.Seq.val ?_ (fun _ => Below.refl _ _) (fun a w1 hI hp => ?_) ?_
          rotate_left
          · have e3 := hp.slotV 3 (by kernel_rfl) rfl; simp at e3
            refine ⟨Free.want_none rfl, ?_⟩
            clear hp
            go_simp
            rfl
          refine Free.Seq.val ?_ (fun _ => Below.refl _ _) (fun a w1 hI hp => ?_) ?_
          rotate_left
          · have e39 := hp.backV 5 0 rfl rfl rfl rfl rfl
            have kb2 := (hI.cell (p := ⟨w.heap.size + 1, 2, none⟩) hp2).trans b2
            refine ⟨Free.want_none rfl, ?_⟩
            clear hp
            go_simp
            rfl
          refine Free.Seq.val ?_ (fun _ => Below.refl _ _) (fun a w1 hI hp => ?_) ?_
          rotate_left
          · have e5 := hp.slotV 5 (by kernel_rfl) rfl; simp at e5
            refine ⟨Free.want_none rfl, ?_⟩
            clear hp
            go_simp
            rfl
          refine Free.Seq.val ?_ (fun _ => Below.refl _ _) (fun a w1 hI hp => ?_) ?_
          rotate_left
          · have e40 := hp.backV 6 1 rfl rfl rfl rfl rfl; have e41 := hp.backV 7 0 rfl rfl rfl rfl rfl
            refine ⟨Free.want_none rfl, ?_⟩
            clear hp
            go_simp
            rfl
          refine Free.Seq.val ?_ (fun _ => Below.refl _ _) (fun a w1 hI hp => ?_) ?_
          rotate_left
          · have e42 := hp.backV 8 0 rfl rfl rfl rfl rfl
            have kd0 := (hI.cell (p := ⟨b', off' + k * 2, none⟩) hbl').trans d0
            have kd1 := (hI.cell (p := ⟨b', off' + k * 2 + 1, none⟩) hbl').trans d1
            refine ⟨Free.want_none rfl, ?_⟩
            clear hp
            go_simp
            rfl
          refine Free.Seq.val ?_ (fun _ => Below.refl _ _) (fun a w1 hI hp => ?_) ?_
          rotate_left
          · have e38 := hp.backV 4 5 rfl rfl rfl rfl rfl; have e43 := hp.backV 9 0 rfl rfl rfl rfl rfl
            refine ⟨Free.want_none rfl, ?_⟩
            clear hp
            go_simp
            rfl
          refine Free.Seq.done (by simp) (fun wz hIz => ?_)
          simp only [List.reverse_cons, List.reverse_nil, List.nil_append, List.cons_append, Free.All, Free.eqF, forall_eq]
          skip
          simp only [Free.putL, Act.put, List.setIfInBounds_toArray, List.set_cons_zero, List.set_cons_succ]
          have HB3 := Lib.hid (HBr.out.trans (hIz.mono (by omega)))
          clear hIz a2 b2 c0 c1 d0 d1
          dsimp only [Exit.inBlock, Exit.then]
          go_wp2_with fail
          go_ret
          exact ⟨ret_bool (by rw [HR0.out]), HB3.out⟩
    · have hkn : k = n1 := by omega
      subst hkn
      have hq2 : R = (decide (hd = hd') && decide (sn = sn')) := by
        rw [HQ.out, drop_done HL1.out (by rw [HL2.out, HNN.out]), Bool.true_and]
      have HQ2 := Lib.hid hq2
      have a2 := cell_of_cells G1.out 2
      have a3 := cell_of_cells G1.out 3
      have b3 := cell_of_cells G2.out 3
      simp at a2 a3 b3
      clear hq2 HQ HQ0
      go_wp2_with fail
      refine (rsameall_any hd hd' A2 n2 c2 A2' n2' c2' B1 B2 wr (H1.out.hd.below keeps_ms HBr.out) (H2.out.hd.below keeps_ms HBr.out)).mono ?_
      rintro e9 w9 ⟨rfl, hb9⟩
      have hz9 := hb9.size
      have HB9 := Lib.hid (HBr.out.trans (hb9.mono (by omega)))
      have G1 := Lib.hid ((hb9.block w.heap.size (by omega)).trans G1.out)
      have G2 := Lib.hid ((hb9.block (w.heap.size + 1) (by omega)).trans G2.out)
      have a4 := cell_of_cells G1.out 4
      have b4 := cell_of_cells G2.out 4
      simp at a4 b4
      obtain ⟨D, hD⟩ : ∃ D, D = decide (hd = hd') := ⟨_, rfl⟩
      rw [← hD] at HQ2 ⊢
      clear hb9 a2 a3 b3 hD
      cases D
      · go_wp2_with fail
        go_ret
        exact ⟨ret_bool (by rw [HQ2.out, Bool.false_and]), HB9.out⟩
      · go_wp2_with fail
        refine (rsamemarks_any sn sn' A3 n3 c3 A3' n3' c3' B1 B2 w9 (H1.out.sn.below keeps_mk HB9.out) (H2.out.sn.below keeps_mk HB9.out)).mono ?_
        rintro e10 w10 ⟨rfl, hb10⟩
        have HB10 := Lib.hid (HB9.out.trans (hb10.mono (by omega)))
        clear hb10 a4 b4
        go_wp2_with fail
        go_ret
        exact ⟨ret_bool (by rw [HQ2.out, Bool.true_and]), HB10.out⟩
end Go.Proofs.Ytcnlgcmooegfkaa
namespace Go.Proofs.Ytcnlgcmooegfkaa
open Go.RowKit Mg Sn

def sA : St := ⟨1, 2, [], [⟨⟨0, 3, 1, 1⟩, [97]⟩], []⟩
theorem ckA : ck sA = 0 := by decide
theorem lenA : (ptB sA).length = 20 := by
  rw [ptB, if_pos ckA, putB, List.length_append, be_len, bodyB]
  simp only [List.length_append, preB_len, nxsB_len, mssB_len, mksB_len, beL_len, sA]
  simp [Sn.bytes, gaps]
theorem getA : getS (ptB sA) = some sA := (getS_iff _ _).2 ⟨(ck_ok _).1 ckA, by rw [ptB, if_pos ckA]⟩

set_option maxRecDepth 100000 in
set_option maxHeartbeats 4000000 in
theorem sawake_any (w : World) : Calls Try.prog 15 #[] w fun e w' => e = .returned (.bool true) ∧ Below w.heap.size w w' := by
  have kc := fun (w : World) (C : Array Value) (n c : Nat) => Lib.run_convert_bytes_const (P := Try.prog) w 28 5 C n c Try.underlying28 Try.underlying5
  go_enter Try.func15, Try.ntmps15
  go_wp2_with fail
  obtain ⟨W, hW⟩ : ∃ W, W = ((w.alloc (.cells #[.int .u8 97] 5 (1, 2))).alloc (.cells #[.int .i64 0, .int .i64 3, .int .i64 1, .int .i64 1, .slice (some ⟨w.heap.size, 0, none⟩) 1 1] 54)).alloc (.cells #[.int .i64 1, .int .i64 2, .slice none 0 0, .slice (some ⟨w.heap.size + 1, 0, none⟩) 1 1, .slice none 0 0] 26) := ⟨_, rfl⟩
  rw [← hW]
  have g0 : W.heap[w.heap.size]? = some (.cells #[.int .u8 97] 5 (1, 2)) := by rw [hW]; exact (Below.heap_alloc _ _ _ (by simp; omega)).trans ((Below.heap_alloc _ _ _ (by simp)).trans (heap_alloc_new w _))
  have g1 : W.heap[w.heap.size + 1]? = some (.cells #[.int .i64 0, .int .i64 3, .int .i64 1, .int .i64 1, .slice (some ⟨w.heap.size, 0, none⟩) 1 1] 54 (0, 0)) := by
    rw [hW]
    have := heap_alloc_new (w.alloc (.cells #[.int .u8 97] 5 (1, 2))) (.cells #[.int .i64 0, .int .i64 3, .int .i64 1, .int .i64 1, .slice (some ⟨w.heap.size, 0, none⟩) 1 1] 54)
    rw [World.size_alloc] at this
    exact (Below.heap_alloc _ _ _ (by simp)).trans this
  have g2 : W.heap[w.heap.size + 2]? = some (.cells #[.int .i64 1, .int .i64 2, .slice none 0 0, .slice (some ⟨w.heap.size + 1, 0, none⟩) 1 1, .slice none 0 0] 26 (0, 0)) := by
    rw [hW]
    have := heap_alloc_new ((w.alloc (.cells #[.int .u8 97] 5 (1, 2))).alloc (.cells #[.int .i64 0, .int .i64 3, .int .i64 1, .int .i64 1, .slice (some ⟨w.heap.size, 0, none⟩) 1 1] 54)) (.cells #[.int .i64 1, .int .i64 2, .slice none 0 0, .slice (some ⟨w.heap.size + 1, 0, none⟩) 1 1, .slice none 0 0] 26)
    rwa [World.size_alloc, World.size_alloc] at this
  have hz : W.heap.size = w.heap.size + 3 := by rw [hW]; simp
  have HB0 : Hid (Below w.heap.size w W) := by show Below _ _ _; rw [hW]; exact (((Below.refl _ _).alloc (Nat.le_refl _) _).alloc (by simp) _).alloc (by simp; omega) _
  have hrd : RdS W 0 ⟨none, 0, 0, some ⟨w.heap.size + 1, 0, none⟩, 1, 1, none, 0, 0⟩ sA := by
    refine ⟨RdE.nil _ _ _ _, ⟨rfl, Nat.le_refl _, by show 1 ≤ 281474976710656; omega, fun _ => ⟨w.heap.size + 1, 0, rfl, Nat.zero_le _, by omega, fun j x hx => ?_⟩⟩, RdE.nil _ _ _ _⟩
    match j, hx with
    | 0, hx =>
      injection hx with hx
      subst hx
      refine ⟨_, ⟨some ⟨w.heap.size, 0, none⟩, 1, rfl, ⟨rfl, Nat.le_refl _, by simp, fun _ => ⟨w.heap.size, 0, rfl, by omega, fun i u hu => ?_⟩⟩, fun _ => ⟨_, _, rfl, Nat.zero_le _⟩⟩, rfl, fun i u hu => ?_⟩
      · match i, hu with
        | 0, hu =>
          injection hu with hu
          subst hu
          rw [cell_of_cells g0]
          rfl
      · rw [Nat.zero_mul, Nat.add_zero, Nat.zero_add, cell_of_cells g1]
        rw [← hu]
        simp
  have HRD := Lib.hid hrd
  have G2 := Lib.hid g2
  clear hW g0 g1 g2 hrd
  refine (put_st sA ⟨none, 0, 0, some ⟨w.heap.size + 1, 0, none⟩, 1, 1, none, 0, 0⟩ 0 W HRD.out).mono ?_
  rintro e1 w1 ⟨A1, n1, c1, rfl, hn1, ho1, hb1⟩
  rw [lenA] at hn1
  subst hn1
  rw [ckA]
  have hs1 := hb1.size
  have HB1 := Lib.hid hb1
  have HRp := Lib.hid (OwnB.rd ho1 lenA (by omega))
  clear ho1 hb1
  go_wp2_with fail
  refine (sget_any A1 20 c1 (ptB sA) w1 HRp.out).mono ?_
  rintro e2 w2 ⟨hb2, hg2⟩
  rw [getA] at hg2
  obtain ⟨v2, rfl, hr2⟩ := hg2
  have hs2 := hb2.size
  have HB2 := Lib.hid (HB1.out.trans (hb2.mono hs1))
  have HR2 := Lib.hid hr2
  have G2' := Lib.hid ((HB2.out.block (w.heap.size + 2) (by omega)).trans G2.out)
  have HR1 := Lib.hid (HRD.out.below HB2.out)
  clear hb2 hr2 HB1 G2 HRD HRp
  obtain ⟨B1, m1, k1, B2, m2, k2, B3, m3, k3⟩ := v2
  have HSM : Hid (∀ w' : World, Below w2.heap.size w2 w' → Calls Try.prog 14 #[.agg #[.int .i64 1, .int .i64 2, .slice none 0 0, .slice (some ⟨w.heap.size + 1, 0, none⟩) 1 1, .slice none 0 0], .agg #[.int .i64 1, .int .i64 2, .slice B1 m1 k1, .slice B2 m2 k2, .slice B3 m3 k3]] w' fun e w'' => e = .returned (.bool true) ∧ Below w'.heap.size w' w'') := fun w' h => by
    have := rsamestate_any sA sA _ _ 0 w1.heap.size w' (HR1.out.below h) (HR2.out.below h)
    rw [show decide (sA = sA) = true by simp] at this
    exact this
  have a0 := cell_of_cells G2'.out 0
  have a1 := cell_of_cells G2'.out 1
  have a2 := cell_of_cells G2'.out 2
  have a3 := cell_of_cells G2'.out 3
  have a4 := cell_of_cells G2'.out 4
  simp at a0 a1 a2 a3 a4
  have hlt : w.heap.size + 2 < w2.heap.size := by omega
  show _
  unfold stv sA
  simp only
  clear HR1 HR2 G2'
  go_wp2_with fail
  refine (HSM.out _ ((Below.refl _ _).alloc (Nat.le_refl _) _)).mono ?_
  rintro e3 w3 ⟨rfl, hb3⟩
  have HB3 := Lib.hid (HB0.out.trans ((HB2.out.trans (((Below.refl w2.heap.size w2).alloc (Nat.le_refl _) _ |>.trans (hb3.mono (by simp))).mono (by omega))).mono (by omega)))
  clear hb3
  go_wp2_with fail
  go_ret
  exact ⟨rfl, HB3.out⟩
end Go.Proofs.Ytcnlgcmooegfkaa
namespace Go.Proofs.Ytcnlgcmooegfkaa
open Go.RowKit Mg Sn

theorem str_of {w : World} {A : Option Addr} {n c : Nat} {l : List UInt8} (h : Rd w A n c l) : (convert 28 9 (.slice A n c)).run Try.prog w = .ok (.string ⟨l.toArray⟩) w :=
  h.string (P := Try.prog) 28 9 5 Try.underlying28 Try.underlying5 Try.underlying9
theorem put_get {s : St} (h : ck s = 0) : getS (ptB s) = some s := (getS_iff _ _).2 ⟨(ck_ok _).1 h, by rw [ptB, if_pos h]⟩
theorem get_put' {l : List UInt8} {s : St} (h : getS l = some s) : ck s = 0 ∧ ptB s = l := by
  obtain ⟨h1, h2⟩ := (getS_iff _ _).1 h
  have h3 := (ck_ok _).2 h1
  exact ⟨h3, by rw [ptB, if_pos h3]; exact h2⟩
/-- a right state's bytes are not too many -/
theorem ptB_len {s : St} (h : ck s = 0) : (ptB s).length ≤ 1600004 := by
  have := bodyB_len ((ck_ok _).1 h)
  rw [ptB, if_pos h, putB, List.length_append, be_len]
  omega

set_option maxRecDepth 100000 in
set_option maxHeartbeats 8000000 in
theorem back_law (s : St) (v : Sv) (A : Option Addr) (n c : Nat) (l : List UInt8) (w : World) (hS : RdS w 0 v s) (hP : Rd w A n c l) :
    Calls Try.prog 5 #[stv s v, .slice A n c] w fun e w' => e = .returned (.bool true) ∧ Below w.heap.size w w' := by
  have HPU := Lib.hid (fun W (h : Below w.heap.size w W) => put_st s v 0 W (hS.below h))
  have HGP := Lib.hid (fun W (h : Below w.heap.size w W) => sget_any A n c l W (hP.below h))
  have HS := Lib.hid hS
  have HP := Lib.hid hP
  clear hS hP
  obtain ⟨A1, n1, c1, A2, n2, c2, A3, n3, c3⟩ := v
  obtain ⟨CK, hCK⟩ : ∃ x, x = ck s := ⟨_, rfl⟩
  have HCK := Lib.hid hCK
  have hsv : stv s ⟨A1, n1, c1, A2, n2, c2, A3, n3, c3⟩ = .agg #[.int .i64 s.self, .int .i64 s.ep, .slice A1 n1 c1, .slice A2 n2 c2, .slice A3 n3 c3] := rfl
  rw [← hCK] at HPU
  rw [hsv] at HPU ⊢
  obtain ⟨se, hse⟩ : ∃ x, x = s.self := ⟨_, rfl⟩
  obtain ⟨ep, hep⟩ : ∃ x, x = s.ep := ⟨_, rfl⟩
  rw [← hse, ← hep] at HPU hsv ⊢
  have HSV := Lib.hid hsv
  clear hCK hsv hse hep
  go_enter Try.func5, Try.ntmps5
  go_wp2_with fail
  have hB0 : Below w.heap.size w (w.alloc (.cells #[.int .i64 se, .int .i64 ep, .slice A1 n1 c1, .slice A2 n2 c2, .slice A3 n3 c3] 26)) := (Below.refl _ _).alloc (Nat.le_refl _) _
  refine (HPU.out _ hB0).mono ?_
  rintro e1 w1 ⟨Aq, nq, cq, rfl, hnq, hoq, hb1⟩
  have hs1 := hb1.size
  simp at hs1
  have HB1 := Lib.hid (hB0.trans (hb1.mono (by simp)))
  have G1 := Lib.hid ((hb1.block w.heap.size (by simp)).trans (heap_alloc_new w (.cells #[.int .i64 se, .int .i64 ep, .slice A1 n1 c1, .slice A2 n2 c2, .slice A3 n3 c3] 26)))
  have HNQ := Lib.hid hnq
  have HOQ := Lib.hid hoq
  have hw1 : w.heap.size < w1.heap.size := by omega
  clear hnq hoq hb1 hB0 HPU
  by_cases hc0 : CK = 0
  · subst hc0
    have hgq : getS (ptB s) = some s := put_get HCK.out.symm
    have hlq := ptB_len HCK.out.symm
    have hrq := OwnB.rd HOQ.out HNQ.out.symm (by rw [HNQ.out]; omega)
    have HGQ := Lib.hid (sget_any Aq nq cq (ptB s) w1 hrq)
    have HGS := Lib.hid hgq
    clear hgq hlq hrq
    go_wp2_with fail
    refine HGQ.out.mono ?_
    rintro e2 w2 ⟨hb2, hg2⟩
    rw [HGS.out] at hg2
    obtain ⟨v2, rfl, hr2⟩ := hg2
    obtain ⟨B1, m1, k1, B2, m2, k2, B3, m3, k3⟩ := v2
    have hsv2 : stv s ⟨B1, m1, k1, B2, m2, k2, B3, m3, k3⟩ = .agg #[.int .i64 se, .int .i64 ep, .slice B1 m1 k1, .slice B2 m2 k2, .slice B3 m3 k3] := by
      have := HSV.out
      unfold stv at this ⊢
      injection this with this
      simp only [Array.mk.injEq, List.cons.injEq, Value.int.injEq, true_and, and_true] at this ⊢
      simp [this]
    have HSM : Hid (∀ w' : World, Below w2.heap.size w2 w' → Calls Try.prog 14 #[.agg #[.int .i64 se, .int .i64 ep, .slice A1 n1 c1, .slice A2 n2 c2, .slice A3 n3 c3], .agg #[.int .i64 se, .int .i64 ep, .slice B1 m1 k1, .slice B2 m2 k2, .slice B3 m3 k3]] w' fun e w'' => e = .returned (.bool true) ∧ Below w'.heap.size w' w'') := fun w' h => by
      have := rsamestate_any s s ⟨A1, n1, c1, A2, n2, c2, A3, n3, c3⟩ ⟨B1, m1, k1, B2, m2, k2, B3, m3, k3⟩ 0 w1.heap.size w' (HS.out.below (HB1.out.trans ((hb2.trans (h.mono hb2.size)).mono HB1.out.size))) (hr2.below h)
      rw [show decide (s = s) = true by simp, hsv2, HSV.out] at this
      exact this
    have hs2 := hb2.size
    have HB2 := Lib.hid (HB1.out.trans (hb2.mono HB1.out.size))
    have G2 := Lib.hid ((hb2.block w.heap.size (by omega)).trans G1.out)
    rw [hsv2]
    have a0 := cell_of_cells G2.out 0
    have a1 := cell_of_cells G2.out 1
    have a2 := cell_of_cells G2.out 2
    have a3 := cell_of_cells G2.out 3
    have a4 := cell_of_cells G2.out 4
    simp at a0 a1 a2 a3 a4
    have hw2 : w.heap.size < w2.heap.size := by omega
    clear hb2 hr2 hsv2 HGQ HGS
    go_wp2_with fail
    refine (HSM.out _ ((Below.refl _ _).alloc (Nat.le_refl _) _)).mono ?_
    rintro e3 w3 ⟨rfl, hb3⟩
    have HB3 := Lib.hid (HB2.out.trans (((Below.refl w2.heap.size w2).alloc (Nat.le_refl _) _ |>.trans (hb3.mono (by simp))).mono (by omega)))
    clear hb3 a0 a1 a2 a3 a4 HSM
    go_wp2_with fail
    refine (HGP.out w3 HB3.out).mono ?_
    rintro e5 w5 ⟨hb5, hg5⟩
    have HB5 := Lib.hid (HB3.out.trans (hb5.mono HB3.out.size))
    have hs5 := hb5.size
    have hsx := HB3.out.size
    cases hgl : getS l with
    | none =>
      rw [hgl] at hg5
      obtain rfl : e5 = _ := hg5
      clear hb5
      unfold st0
      go_wp2_with fail
      refine (sawake_any _).mono ?_
      rintro e9 w9 ⟨rfl, hb9⟩
      have HB9 := Lib.hid (HB5.out.trans ((((Below.refl w5.heap.size w5).alloc (Nat.le_refl _) _).trans (hb9.mono (by simp))).mono (by omega)))
      clear hb9
      go_wp2_with fail
      go_ret
      exact ⟨rfl, HB9.out⟩
    | some s5 =>
      rw [hgl] at hg5
      obtain ⟨v5, rfl, hr5⟩ := hg5
      obtain ⟨hc5, hl5⟩ := get_put' hgl
      obtain ⟨E1, i1, j1, E2, i2, j2, E3, i3, j3⟩ := v5
      have HPT := Lib.hid (fun W (h : Below w5.heap.size w5 W) => put_st s5 ⟨E1, i1, j1, E2, i2, j2, E3, i3, j3⟩ _ W (hr5.below h))
      rw [hl5, hc5] at HPT
      unfold stv at HPT ⊢
      simp only at HPT ⊢
      clear hb5 hr5 hc5 hl5 hgl
      go_wp2_with fail
      refine (HPT.out _ ((Below.refl _ _).alloc (Nat.le_refl _) _)).mono ?_
      rintro e6 w6 ⟨A6, n6, c6, rfl, hn6, ho6, hb6⟩
      have hs6 := hb6.size
      simp at hs6
      have HB6 := Lib.hid (HB5.out.trans ((((Below.refl w5.heap.size w5).alloc (Nat.le_refl _) _).trans (hb6.mono (by simp))).mono (by omega)))
      have hrp := HP.out.below HB6.out
      have kr := str_of (OwnB.rd ho6 hn6.symm (by rw [hn6, hrp.len]; exact hrp.big))
      have kp := str_of hrp
      clear hn6 ho6 hb6 hrp HPT
      go_wp2_with fail
      refine (sawake_any _).mono ?_
      rintro e9 w9 ⟨rfl, hb9⟩
      have HB9 := Lib.hid (HB6.out.trans (hb9.mono (by omega)))
      clear hb9
      go_wp2_with fail
      go_ret
      exact ⟨rfl, HB9.out⟩
  · have t0 : (CK == 0) = false := by simpa using hc0
    clear hc0
    go_wp2_with fail
    refine (HGP.out w1 HB1.out).mono ?_
    rintro e5 w5 ⟨hb5, hg5⟩
    have HB5 := Lib.hid (HB1.out.trans (hb5.mono HB1.out.size))
    have hs5 := hb5.size
    have hsx := HB1.out.size
    cases hgl : getS l with
    | none =>
      rw [hgl] at hg5
      obtain rfl : e5 = _ := hg5
      clear hb5
      unfold st0
      go_wp2_with fail
      refine (sawake_any _).mono ?_
      rintro e9 w9 ⟨rfl, hb9⟩
      have HB9 := Lib.hid (HB5.out.trans ((((Below.refl w5.heap.size w5).alloc (Nat.le_refl _) _).trans (hb9.mono (by simp))).mono (by omega)))
      clear hb9
      go_wp2_with fail
      go_ret
      exact ⟨rfl, HB9.out⟩
    | some s5 =>
      rw [hgl] at hg5
      obtain ⟨v5, rfl, hr5⟩ := hg5
      obtain ⟨hc5, hl5⟩ := get_put' hgl
      obtain ⟨E1, i1, j1, E2, i2, j2, E3, i3, j3⟩ := v5
      have HPT := Lib.hid (fun W (h : Below w5.heap.size w5 W) => put_st s5 ⟨E1, i1, j1, E2, i2, j2, E3, i3, j3⟩ _ W (hr5.below h))
      rw [hl5, hc5] at HPT
      unfold stv at HPT ⊢
      simp only at HPT ⊢
      clear hb5 hr5 hc5 hl5 hgl
      go_wp2_with fail
      refine (HPT.out _ ((Below.refl _ _).alloc (Nat.le_refl _) _)).mono ?_
      rintro e6 w6 ⟨A6, n6, c6, rfl, hn6, ho6, hb6⟩
      have hs6 := hb6.size
      simp at hs6
      have HB6 := Lib.hid (HB5.out.trans ((((Below.refl w5.heap.size w5).alloc (Nat.le_refl _) _).trans (hb6.mono (by simp))).mono (by omega)))
      have hrp := HP.out.below HB6.out
      have kr := str_of (OwnB.rd ho6 hn6.symm (by rw [hn6, hrp.len]; exact hrp.big))
      have kp := str_of hrp
      clear hn6 ho6 hb6 hrp HPT
      go_wp2_with fail
      refine (sawake_any _).mono ?_
      rintro e9 w9 ⟨rfl, hb9⟩
      have HB9 := Lib.hid (HB6.out.trans (hb9.mono (by omega)))
      clear hb9
      go_wp2_with fail
      go_ret
      exact ⟨rfl, HB9.out⟩
end Go.Proofs.Ytcnlgcmooegfkaa
namespace Go.Proofs.Ytcnlgcmooegfkaa
open Go.RowKit Mg Sn

theorem ptB_inj {a b : St} (ha : ck a = 0) (hb : ck b = 0) (h : ptB a = ptB b) : a = b := by
  have h1 := put_get ha
  rw [h, put_get hb] at h1
  injection h1 with h1
  exact h1.symm

set_option maxRecDepth 100000 in
set_option maxHeartbeats 8000000 in
theorem apart_law (s1 s2 : St) (v1 v2 : Sv) (w : World) (h1 : RdS w 0 v1 s1) (h2 : RdS w 0 v2 s2) :
    Calls Try.prog 6 #[stv s1 v1, stv s2 v2] w fun e w' => e = .returned (.bool true) ∧ Below w.heap.size w w' := by
  have HP1 := Lib.hid (fun W (h : Below w.heap.size w W) => put_st s1 v1 0 W (h1.below h))
  have HP2 := Lib.hid (fun W (h : Below w.heap.size w W) => put_st s2 v2 0 W (h2.below h))
  have HSM := Lib.hid (fun W (h : Below w.heap.size w W) => rsamestate_any s1 s2 v1 v2 0 0 W (h1.below h) (h2.below h))
  clear h1 h2
  obtain ⟨A1, n1, c1, A2, n2, c2, A3, n3, c3⟩ := v1
  obtain ⟨B1, m1, k1, B2, m2, k2, B3, m3, k3⟩ := v2
  obtain ⟨E1, hE1⟩ : ∃ x, x = ck s1 := ⟨_, rfl⟩
  obtain ⟨E2, hE2⟩ : ∃ x, x = ck s2 := ⟨_, rfl⟩
  rw [← hE1] at HP1
  rw [← hE2] at HP2
  obtain ⟨x1, hx1⟩ : ∃ x, x = s1.self := ⟨_, rfl⟩
  obtain ⟨y1, hy1⟩ : ∃ x, x = s1.ep := ⟨_, rfl⟩
  obtain ⟨x2, hx2⟩ : ∃ x, x = s2.self := ⟨_, rfl⟩
  obtain ⟨y2, hy2⟩ : ∃ x, x = s2.ep := ⟨_, rfl⟩
  obtain ⟨L1, hL1⟩ : ∃ x, x = ptB s1 := ⟨_, rfl⟩
  obtain ⟨L2, hL2⟩ : ∃ x, x = ptB s2 := ⟨_, rfl⟩
  rw [← hL1] at HP1
  rw [← hL2] at HP2
  unfold stv at HP1 HP2 HSM ⊢
  simp only at HP1 HP2 HSM ⊢
  rw [← hx1, ← hy1] at HP1 HSM ⊢
  rw [← hx2, ← hy2] at HP2 HSM ⊢
  obtain ⟨DD, hDD⟩ : ∃ x, x = decide (s1 = s2) := ⟨_, rfl⟩
  rw [← hDD] at HSM
  have hst : E1 = 0 → E2 = 0 → (((⟨L1.toArray⟩ : ByteArray).toList == (⟨L2.toArray⟩ : ByteArray).toList) = DD) ∧ L1.length ≤ 1600004 ∧ L2.length ≤ 1600004 := fun e1 e2 => by
    have c1 : ck s1 = 0 := by rw [← hE1]; exact e1
    have c2 : ck s2 = 0 := by rw [← hE2]; exact e2
    refine ⟨?_, by rw [hL1]; exact ptB_len c1, by rw [hL2]; exact ptB_len c2⟩
    rw [hDD, hL1, hL2, Bool.eq_iff_iff, beq_iff_eq, decide_eq_true_eq]
    constructor
    · intro h
      rw [ByteArray.toList_eq, ByteArray.toList_eq] at h
      exact ptB_inj c1 c2 (by simpa using h)
    · intro h
      rw [h]
  have HST := Lib.hid hst
  clear hx1 hy1 hx2 hy2 hE1 hE2 hL1 hL2 hDD hst
  go_enter Try.func6, Try.ntmps6
  go_wp2_with fail
  obtain ⟨W, hW⟩ : ∃ W, W = (w.alloc (.cells #[.int .i64 x1, .int .i64 y1, .slice A1 n1 c1, .slice A2 n2 c2, .slice A3 n3 c3] 26)).alloc (.cells #[.int .i64 x2, .int .i64 y2, .slice B1 m1 k1, .slice B2 m2 k2, .slice B3 m3 k3] 26) := ⟨_, rfl⟩
  rw [← hW]
  have hz : w.heap.size + 1 < W.heap.size := by rw [hW]; simp
  have g1 : W.heap[w.heap.size]? = some (.cells #[.int .i64 x1, .int .i64 y1, .slice A1 n1 c1, .slice A2 n2 c2, .slice A3 n3 c3] 26 (0, 0)) := by rw [hW]; exact (Below.heap_alloc _ _ _ (by simp)).trans (heap_alloc_new w _)
  have g2 : W.heap[w.heap.size + 1]? = some (.cells #[.int .i64 x2, .int .i64 y2, .slice B1 m1 k1, .slice B2 m2 k2, .slice B3 m3 k3] 26 (0, 0)) := by
    rw [hW]
    have := heap_alloc_new (w.alloc (.cells #[.int .i64 x1, .int .i64 y1, .slice A1 n1 c1, .slice A2 n2 c2, .slice A3 n3 c3] 26)) (.cells #[.int .i64 x2, .int .i64 y2, .slice B1 m1 k1, .slice B2 m2 k2, .slice B3 m3 k3] 26)
    rwa [World.size_alloc] at this
  have hB0 : Below w.heap.size w W := by rw [hW]; exact ((Below.refl _ _).alloc (Nat.le_refl _) _).alloc (by simp) _
  refine (HP1.out W hB0).mono ?_
  rintro e1 w1 ⟨Ap, np, cp, rfl, hnp, hop, hb1⟩
  have hs1 := hb1.size
  have HB1 := Lib.hid (hB0.trans (hb1.mono (by omega)))
  have G1 := Lib.hid ((hb1.block w.heap.size (by omega)).trans g1)
  have G2 := Lib.hid ((hb1.block (w.heap.size + 1) (by omega)).trans g2)
  have HN1 := Lib.hid hnp
  have HO1 := Lib.hid hop
  have b0 := cell_of_cells G2.out 0
  have b1 := cell_of_cells G2.out 1
  have b2 := cell_of_cells G2.out 2
  have b3 := cell_of_cells G2.out 3
  have b4 := cell_of_cells G2.out 4
  simp at b0 b1 b2 b3 b4
  clear hW g1 g2 hB0 hnp hop hb1 HP1
  go_wp2_with fail
  refine (HP2.out w1 HB1.out).mono ?_
  rintro e2 w2 ⟨Aq, nq, cq, rfl, hnq, hoq, hb2⟩
  have hs2 := hb2.size
  have HB2 := Lib.hid (HB1.out.trans (hb2.mono (by omega)))
  have G1 := Lib.hid ((hb2.block w.heap.size (by omega)).trans G1.out)
  have G2 := Lib.hid ((hb2.block (w.heap.size + 1) (by omega)).trans G2.out)
  have HN2 := Lib.hid hnq
  have HO1 := Lib.hid (own_below HO1.out hb2)
  have HO2 := Lib.hid hoq
  clear hnq hoq hb2 HP2 b0 b1 b2 b3 b4
  by_cases h01 : E1 = 0
  rotate_left
  · have t0 : (E1 != 0) = true := by simpa using h01
    clear h01
    go_wp2_with fail
    refine (sawake_any _).mono ?_
    rintro e9 w9 ⟨rfl, hb9⟩
    have HB9 := Lib.hid (HB2.out.trans (hb9.mono (by omega)))
    clear hb9
    go_wp2_with fail
    go_ret
    exact ⟨rfl, HB9.out⟩
  by_cases h02 : E2 = 0
  rotate_left
  · have t0 : (E1 != 0) = false := by simpa using h01
    have t1 : (E2 != 0) = true := by simpa using h02
    clear h01 h02
    go_wp2_with fail
    refine (sawake_any _).mono ?_
    rintro e9 w9 ⟨rfl, hb9⟩
    have HB9 := Lib.hid (HB2.out.trans (hb9.mono (by omega)))
    clear hb9
    go_wp2_with fail
    go_ret
    exact ⟨rfl, HB9.out⟩
  obtain ⟨hst, hl1, hl2⟩ := HST.out h01 h02
  have HR1 := Lib.hid (OwnB.rd HO1.out HN1.out.symm (by rw [HN1.out]; omega))
  have HR2 := Lib.hid (OwnB.rd HO2.out HN2.out.symm (by rw [HN2.out]; omega))
  subst h01 h02
  obtain ⟨S1, hS1⟩ : ∃ x, x = (⟨L1.toArray⟩ : ByteArray) := ⟨_, rfl⟩
  obtain ⟨S2, hS2⟩ : ∃ x, x = (⟨L2.toArray⟩ : ByteArray) := ⟨_, rfl⟩
  have HC1 : Hid (∀ W, Below w2.heap.size w2 W → (convert 28 9 (.slice Ap np cp)).run Try.prog W = .ok (.string S1) W) := fun W h => by rw [hS1]; exact str_of (HR1.out.below h)
  have HC2 : Hid (∀ W, Below w2.heap.size w2 W → (convert 28 9 (.slice Aq nq cq)).run Try.prog W = .ok (.string S2) W) := fun W h => by rw [hS2]; exact str_of (HR2.out.below h)
  rw [← hS1, ← hS2] at hst
  have a0 := cell_of_cells G1.out 0
  have a1 := cell_of_cells G1.out 1
  have a2 := cell_of_cells G1.out 2
  have a3 := cell_of_cells G1.out 3
  have a4 := cell_of_cells G1.out 4
  have b0 := cell_of_cells G2.out 0
  have b1 := cell_of_cells G2.out 1
  have b2 := cell_of_cells G2.out 2
  have b3 := cell_of_cells G2.out 3
  have b4 := cell_of_cells G2.out 4
  simp at a0 a1 a2 a3 a4 b0 b1 b2 b3 b4
  have hw1 : w.heap.size < w2.heap.size := by omega
  have hw2 : w.heap.size + 1 < w2.heap.size := by omega
  clear hl1 hl2 HR1 HR2 hS1 hS2 HO1 HO2 G1 G2
  go_wp2_with fail
  cases DD
  · skip
    refine Free.wp_seq (I := fun w' => Below w2.heap.size w2 w') (Gr := fun w1 w2 => Below w1.heap.size w1 w2) (by kernel_rfl) (by kernel_rfl) (Below.refl _ _).drew ?_
    refine Free.Seq.val ?_ (fun _ => Below.refl _ _) (fun a w1 hI hp => ?_) ?_
    rotate_left
    · have e5 := hp.slotV 5 (by kernel_rfl) rfl; simp at e5
      refine ⟨Free.want_none rfl, ?_⟩
      clear hp
      go_simp
      rfl
    refine Free.Seq.val ?_ (fun _ => Below.refl _ _) (fun a w1 hI hp => ?_) ?_
    rotate_left
    · have e26 := hp.backV 0 0 rfl rfl rfl rfl rfl
      have kc := HC1.out _ hI
      refine ⟨Free.want_none rfl, ?_⟩
      clear hp
      go_simp
      rfl
    refine Free.Seq.val ?_ (fun _ => Below.refl _ _) (fun a w1 hI hp => ?_) ?_
    rotate_left
    · have e7 := hp.slotV 7 (by kernel_rfl) rfl; simp at e7
      refine ⟨Free.want_none rfl, ?_⟩
      clear hp
      go_simp
      rfl
    refine Free.Seq.val ?_ (fun _ => Below.refl _ _) (fun a w1 hI hp => ?_) ?_
    rotate_left
    · have e28 := hp.backV 2 0 rfl rfl rfl rfl rfl
      have kc := HC2.out _ hI
      refine ⟨Free.want_none rfl, ?_⟩
      clear hp
      go_simp
      rfl
    refine Free.Seq.val ?_ (fun _ => Below.refl _ _) (fun a w1 hI hp => ?_) ?_
    rotate_left
    · have e27 := hp.backV 1 2 rfl rfl rfl rfl rfl; have e29 := hp.backV 3 0 rfl rfl rfl rfl rfl
      refine ⟨Free.want_none rfl, ?_⟩
      clear hp
      go_simp
      rfl
    refine Free.Seq.val ?_ (fun _ => Below.refl _ _) (fun a w1 hI hp => ?_) ?_
    rotate_left
    · have e2 := hp.slotV 2 (by kernel_rfl) rfl; simp at e2
      have ka0 := (hI.cell (p := ⟨w.heap.size, 0, none⟩) hw1).trans a0
      have ka1 := (hI.cell (p := ⟨w.heap.size, 1, none⟩) hw1).trans a1
      have ka2 := (hI.cell (p := ⟨w.heap.size, 2, none⟩) hw1).trans a2
      have ka3 := (hI.cell (p := ⟨w.heap.size, 3, none⟩) hw1).trans a3
      have ka4 := (hI.cell (p := ⟨w.heap.size, 4, none⟩) hw1).trans a4
      refine ⟨Free.want_none rfl, ?_⟩
      clear hp
      go_simp
      rfl
    refine Free.Seq.val ?_ (fun _ => Below.refl _ _) (fun a w1 hI hp => ?_) ?_
    rotate_left
    · have e3 := hp.slotV 3 (by kernel_rfl) rfl; simp at e3
      have kb0 := (hI.cell (p := ⟨w.heap.size + 1, 0, none⟩) hw2).trans b0
      have kb1 := (hI.cell (p := ⟨w.heap.size + 1, 1, none⟩) hw2).trans b1
      have kb2 := (hI.cell (p := ⟨w.heap.size + 1, 2, none⟩) hw2).trans b2
      have kb3 := (hI.cell (p := ⟨w.heap.size + 1, 3, none⟩) hw2).trans b3
      have kb4 := (hI.cell (p := ⟨w.heap.size + 1, 4, none⟩) hw2).trans b4
      refine ⟨Free.want_none rfl, ?_⟩
      clear hp
      go_simp
      rfl
    refine Free.Seq.call (T := Free.eqF (.bool false)) (fun _ _ _ h _ => h) (fun a w1 hI hp => ?_) ?_
    · have e31 := hp.backV 5 1 rfl rfl rfl rfl rfl; have e32 := hp.backV 6 0 rfl rfl rfl rfl rfl
      refine ⟨Free.want_none rfl, 14, #[.agg #[.int .i64 x1, .int .i64 y1, .slice A1 n1 c1, .slice A2 n2 c2, .slice A3 n3 c3], .agg #[.int .i64 x2, .int .i64 y2, .slice B1 m1 k1, .slice B2 m2 k2, .slice B3 m3 k3]], ?_, ?_⟩
      · clear hp
        go_simp
      · refine (HSM.out _ (HB2.out.trans (hI.mono (by omega)))).mono ?_
        rintro e w' ⟨rfl, hb⟩
        exact ⟨_, rfl, rfl, hb, hI.trans (hb.mono hI.size)⟩
    refine Free.Seq.val ?_ (fun _ => Below.refl _ _) (fun a w1 hI hp => ?_) ?_
    rotate_left
    · have e30 := hp.backV 4 3 rfl rfl rfl rfl rfl; have e33 := hp.backV 7 0 rfl rfl rfl rfl rfl
      refine ⟨Free.want_none rfl, ?_⟩
      clear hp
      go_simp
      rfl
    refine Free.Seq.val ?_ (fun _ => Below.refl _ _) (fun a w1 hI hp => ?_) ?_
    rotate_left
    · have e34 := hp.backV 8 0 rfl rfl rfl rfl rfl
      refine ⟨Free.want_none rfl, ?_⟩
      clear hp
      go_simp
      rfl
    refine Free.Seq.call (T := Free.eqF (.bool true)) (fun _ _ _ h _ => h) (fun a w1 hI hp => ?_) ?_
    · have e35 := hp.backV 9 0 rfl rfl rfl rfl rfl
      refine ⟨hp.want rfl rfl rfl e35, 15, #[], ?_, ?_⟩
      · clear hp
        go_simp
      · refine (sawake_any _).mono ?_
        rintro e w' ⟨rfl, hb⟩
        exact ⟨_, rfl, rfl, hb, hI.trans (hb.mono hI.size)⟩
    refine Free.Seq.val ?_ (fun _ => Below.refl _ _) (fun a w1 hI hp => ?_) ?_
    rotate_left
    · have e35 := hp.backV 9 1 rfl rfl rfl rfl rfl; have e36 := hp.backV 10 0 rfl rfl rfl rfl rfl
      refine ⟨Free.want_none rfl, ?_⟩
      clear hp
      go_simp
      rfl
    refine Free.Seq.val ?_ (fun _ => Below.refl _ _) (fun a w1 hI hp => ?_) ?_
    rotate_left
    · have e37 := hp.backV 11 0 rfl rfl rfl rfl rfl
      refine ⟨Free.want_none rfl, ?_⟩
      clear hp
      go_simp
      rfl
    refine Free.Seq.done (by simp) (fun wz hIz => ?_)
    simp only [List.reverse_cons, List.reverse_nil, List.nil_append, List.cons_append, Free.All, Free.eqF, forall_eq]
    skip
    simp only [Free.putL, Act.put, List.setIfInBounds_toArray, List.set_cons_zero, List.set_cons_succ]
    have HB9 := Lib.hid (HB2.out.trans (hIz.mono (by omega)))
    clear hIz
    dsimp only [Exit.inBlock, Exit.then]
    go_wp2_with fail
    go_ret
    exact ⟨rfl, HB9.out⟩
  · skip
    refine Free.wp_seq (I := fun w' => Below w2.heap.size w2 w') (Gr := fun w1 w2 => Below w1.heap.size w1 w2) (by kernel_rfl) (by kernel_rfl) (Below.refl _ _).drew ?_
    refine Free.Seq.val ?_ (fun _ => Below.refl _ _) (fun a w1 hI hp => ?_) ?_
    rotate_left
    · have e5 := hp.slotV 5 (by kernel_rfl) rfl; simp at e5
      refine ⟨Free.want_none rfl, ?_⟩
      clear hp
      go_simp
      rfl
    refine Free.Seq.val ?_ (fun _ => Below.refl _ _) (fun a w1 hI hp => ?_) ?_
    rotate_left
    · have e26 := hp.backV 0 0 rfl rfl rfl rfl rfl
      have kc := HC1.out _ hI
      refine ⟨Free.want_none rfl, ?_⟩
      clear hp
      go_simp
      rfl
    refine Free.Seq.val ?_ (fun _ => Below.refl _ _) (fun a w1 hI hp => ?_) ?_
    rotate_left
    · have e7 := hp.slotV 7 (by kernel_rfl) rfl; simp at e7
      refine ⟨Free.want_none rfl, ?_⟩
      clear hp
      go_simp
      rfl
    refine Free.Seq.val ?_ (fun _ => Below.refl _ _) (fun a w1 hI hp => ?_) ?_
    rotate_left
    · have e28 := hp.backV 2 0 rfl rfl rfl rfl rfl
      have kc := HC2.out _ hI
      refine ⟨Free.want_none rfl, ?_⟩
      clear hp
      go_simp
      rfl
    refine Free.Seq.val ?_ (fun _ => Below.refl _ _) (fun a w1 hI hp => ?_) ?_
    rotate_left
    · have e27 := hp.backV 1 2 rfl rfl rfl rfl rfl; have e29 := hp.backV 3 0 rfl rfl rfl rfl rfl
      refine ⟨Free.want_none rfl, ?_⟩
      clear hp
      go_simp
      rfl
    refine Free.Seq.val ?_ (fun _ => Below.refl _ _) (fun a w1 hI hp => ?_) ?_
    rotate_left
    · have e2 := hp.slotV 2 (by kernel_rfl) rfl; simp at e2
      have ka0 := (hI.cell (p := ⟨w.heap.size, 0, none⟩) hw1).trans a0
      have ka1 := (hI.cell (p := ⟨w.heap.size, 1, none⟩) hw1).trans a1
      have ka2 := (hI.cell (p := ⟨w.heap.size, 2, none⟩) hw1).trans a2
      have ka3 := (hI.cell (p := ⟨w.heap.size, 3, none⟩) hw1).trans a3
      have ka4 := (hI.cell (p := ⟨w.heap.size, 4, none⟩) hw1).trans a4
      refine ⟨Free.want_none rfl, ?_⟩
      clear hp
      go_simp
      rfl
    refine Free.Seq.val ?_ (fun _ => Below.refl _ _) (fun a w1 hI hp => ?_) ?_
    rotate_left
    · have e3 := hp.slotV 3 (by kernel_rfl) rfl; simp at e3
      have kb0 := (hI.cell (p := ⟨w.heap.size + 1, 0, none⟩) hw2).trans b0
      have kb1 := (hI.cell (p := ⟨w.heap.size + 1, 1, none⟩) hw2).trans b1
      have kb2 := (hI.cell (p := ⟨w.heap.size + 1, 2, none⟩) hw2).trans b2
      have kb3 := (hI.cell (p := ⟨w.heap.size + 1, 3, none⟩) hw2).trans b3
      have kb4 := (hI.cell (p := ⟨w.heap.size + 1, 4, none⟩) hw2).trans b4
      refine ⟨Free.want_none rfl, ?_⟩
      clear hp
      go_simp
      rfl
    refine Free.Seq.call (T := Free.eqF (.bool true)) (fun _ _ _ h _ => h) (fun a w1 hI hp => ?_) ?_
    · have e31 := hp.backV 5 1 rfl rfl rfl rfl rfl; have e32 := hp.backV 6 0 rfl rfl rfl rfl rfl
      refine ⟨Free.want_none rfl, 14, #[.agg #[.int .i64 x1, .int .i64 y1, .slice A1 n1 c1, .slice A2 n2 c2, .slice A3 n3 c3], .agg #[.int .i64 x2, .int .i64 y2, .slice B1 m1 k1, .slice B2 m2 k2, .slice B3 m3 k3]], ?_, ?_⟩
      · clear hp
        go_simp
      · refine (HSM.out _ (HB2.out.trans (hI.mono (by omega)))).mono ?_
        rintro e w' ⟨rfl, hb⟩
        exact ⟨_, rfl, rfl, hb, hI.trans (hb.mono hI.size)⟩
    refine Free.Seq.val ?_ (fun _ => Below.refl _ _) (fun a w1 hI hp => ?_) ?_
    rotate_left
    · have e30 := hp.backV 4 3 rfl rfl rfl rfl rfl; have e33 := hp.backV 7 0 rfl rfl rfl rfl rfl
      refine ⟨Free.want_none rfl, ?_⟩
      clear hp
      go_simp
      rfl
    refine Free.Seq.val ?_ (fun _ => Below.refl _ _) (fun a w1 hI hp => ?_) ?_
    rotate_left
    · have e34 := hp.backV 8 0 rfl rfl rfl rfl rfl
      refine ⟨Free.want_none rfl, ?_⟩
      clear hp
      go_simp
      rfl
    refine Free.Seq.call (T := Free.eqF (.bool true)) (fun _ _ _ h _ => h) (fun a w1 hI hp => ?_) ?_
    · have e35 := hp.backV 9 0 rfl rfl rfl rfl rfl
      refine ⟨hp.want rfl rfl rfl e35, 15, #[], ?_, ?_⟩
      · clear hp
        go_simp
      · refine (sawake_any _).mono ?_
        rintro e w' ⟨rfl, hb⟩
        exact ⟨_, rfl, rfl, hb, hI.trans (hb.mono hI.size)⟩
    refine Free.Seq.val ?_ (fun _ => Below.refl _ _) (fun a w1 hI hp => ?_) ?_
    rotate_left
    · have e35 := hp.backV 9 1 rfl rfl rfl rfl rfl; have e36 := hp.backV 10 0 rfl rfl rfl rfl rfl
      refine ⟨Free.want_none rfl, ?_⟩
      clear hp
      go_simp
      rfl
    refine Free.Seq.val ?_ (fun _ => Below.refl _ _) (fun a w1 hI hp => ?_) ?_
    rotate_left
    · have e37 := hp.backV 11 0 rfl rfl rfl rfl rfl
      refine ⟨Free.want_none rfl, ?_⟩
      clear hp
      go_simp
      rfl
    refine Free.Seq.done (by simp) (fun wz hIz => ?_)
    simp only [List.reverse_cons, List.reverse_nil, List.nil_append, List.cons_append, Free.All, Free.eqF, forall_eq]
    skip
    simp only [Free.putL, Act.put, List.setIfInBounds_toArray, List.set_cons_zero, List.set_cons_succ]
    have HB9 := Lib.hid (HB2.out.trans (hIz.mono (by omega)))
    clear hIz
    dsimp only [Exit.inBlock, Exit.then]
    go_wp2_with fail
    go_ret
    exact ⟨rfl, HB9.out⟩
end Go.Proofs.Ytcnlgcmooegfkaa
namespace Go.Proofs.Ytcnlgcmooegfkaa
open Go.RowKit Mg Sn

theorem turns_none (off mask : Nat) (l : List UInt8) : ∀ k, (Crc.turns off mask l k).2 = false → (Crc.turns off mask l k).1 = l
  | 0, _ => rfl
  | k + 1, h => by
    simp only [Crc.turns] at h ⊢
    split
    · rename_i hh
      rw [if_pos hh] at h
      cases h
    · rename_i hh
      rw [if_neg hh] at h
      exact turns_none off mask l k h
theorem turn_none {l : List UInt8} {at' : Int} {mask k : Nat} (h : (Crc.turn l at' mask k).2 = false) : (Crc.turn l at' mask k).1 = l := by
  unfold Crc.turn at h ⊢
  split
  · rfl
  · rename_i hh
    rw [if_neg hh] at h
    exact turns_none _ _ _ _ h
/-- what is got of turned bytes, with the sum that stood behind them -/
theorem turned_get {s : St} (hs : ck s = 0) (at' : Int) (mask : Nat) : ((getS ((Crc.turn (bodyB s) at' mask 32).1 ++ be (Crc.sum (bodyB s)) 4)).isSome) = !(Crc.turn (bodyB s) at' mask 32).2 := by
  obtain ⟨q, hq⟩ : ∃ q, q = (Crc.turn (bodyB s) at' mask 32).1 := ⟨_, rfl⟩
  have key := Crc.run_turn Crc.p32_lo Crc.p32_hi 4294967295 (bodyB s) at' mask
  cases ht : (Crc.turn (bodyB s) at' mask 32).2 with
  | false =>
    rw [turn_none ht]
    have := put_get hs
    rw [ptB, if_pos hs, putB] at this
    rw [this]
    rfl
  | true =>
    rw [← hq]
    have hl : (q ++ be (Crc.sum (bodyB s)) 4).length = q.length + 4 := by rw [List.length_append, be_len]
    have e1 : (q ++ be (Crc.sum (bodyB s)) 4).drop ((q ++ be (Crc.sum (bodyB s)) 4).length - 4) = be (Crc.sum (bodyB s)) 4 := by rw [hl, Nat.add_sub_cancel, List.drop_left]
    have e2 : (q ++ be (Crc.sum (bodyB s)) 4).take ((q ++ be (Crc.sum (bodyB s)) 4).length - 4) = q := by rw [hl, Nat.add_sub_cancel, List.take_left]
    have hne : Crc.sum (bodyB s) ≠ Crc.sum q := by
      intro h
      have h1 := Crc.reg32_lt (bodyB s)
      have h2 := Crc.reg32_lt q
      unfold Crc.sum at h
      have h3 : Crc.reg32 q = Crc.reg32 (bodyB s) := by omega
      have := key.1 (by rw [← hq]; exact h3)
      rw [ht] at this
      cases this
    rw [getS, e1, e2, nval_putB, if_neg (by omega), if_pos hne]
    rfl

set_option maxRecDepth 100000 in
set_option maxHeartbeats 8000000 in
theorem turned_law (s : St) (v : Sv) (at' : Int) (mask : Nat) (w : World) (hm : mask < 4294967296) (hS : RdS w 0 v s) :
    Calls Try.prog 7 #[stv s v, .int .i64 at', .int .u32 (mask : Int)] w fun e w' => e = .returned (.bool true) ∧ Below w.heap.size w w' := by
  have HPU := Lib.hid (fun W (h : Below w.heap.size w W) => put_st s v 0 W (hS.below h))
  clear hS
  obtain ⟨A1, n1, c1, A2, n2, c2, A3, n3, c3⟩ := v
  obtain ⟨CK, hCK⟩ : ∃ x, x = ck s := ⟨_, rfl⟩
  have HCK := Lib.hid hCK
  rw [← hCK] at HPU
  unfold stv at HPU ⊢
  simp only at HPU ⊢
  obtain ⟨se, hse⟩ : ∃ x, x = s.self := ⟨_, rfl⟩
  obtain ⟨ep, hep⟩ : ∃ x, x = s.ep := ⟨_, rfl⟩
  rw [← hse, ← hep] at HPU ⊢
  clear hCK hse hep
  go_enter Try.func7, Try.ntmps7
  go_wp2_with fail
  have hB0 : Below w.heap.size w (w.alloc (.cells #[.int .i64 se, .int .i64 ep, .slice A1 n1 c1, .slice A2 n2 c2, .slice A3 n3 c3] 26)) := (Below.refl _ _).alloc (Nat.le_refl _) _
  refine (HPU.out _ hB0).mono ?_
  rintro e1 w1 ⟨Aq, nq, cq, rfl, hnq, hoq, hb1⟩
  have hs1 := hb1.size
  simp at hs1
  have HB1 := Lib.hid (hB0.trans (hb1.mono (by simp)))
  have HNQ := Lib.hid hnq
  have HOQ := Lib.hid hoq
  clear hnq hoq hb1 hB0 HPU
  by_cases hc0 : CK = 0
  rotate_left
  · have hp0 : ptB s = [] := if_neg (by rw [← HCK.out]; exact hc0)
    have hn0 : nq = 0 := by rw [HNQ.out, hp0]; rfl
    have t0 : (CK != 0) = true := by simpa using hc0
    clear hc0 hp0
    subst hn0
    go_wp2_with fail
    refine (sawake_any _).mono ?_
    rintro e9 w9 ⟨rfl, hb9⟩
    have HB9 := Lib.hid (HB1.out.trans (hb9.mono (by omega)))
    clear hb9
    go_wp2_with fail
    go_ret
    exact ⟨rfl, HB9.out⟩
  subst hc0
  obtain ⟨BD, hBD⟩ : ∃ x, x = bodyB s := ⟨_, rfl⟩
  have hpt : ptB s = BD ++ be (Crc.sum BD) 4 := by rw [ptB, if_pos HCK.out.symm, putB, hBD]
  have hlen := ptB_len HCK.out.symm
  have hrd := OwnB.rd HOQ.out HNQ.out.symm (by rw [HNQ.out]; omega)
  obtain ⟨m, hm4⟩ : ∃ m, nq = m + 4 := ⟨BD.length, by rw [HNQ.out, hpt, List.length_append, be_len]⟩
  subst hm4
  have hbl : BD.length = m := by
    have := HNQ.out
    rw [hpt, List.length_append, be_len] at this
    omega
  rw [hpt] at hrd
  have hm6 : m ≤ 1600000 := by have := HNQ.out; omega
  obtain ⟨g, hA, hg0, hg1⟩ : ∃ g, Aq = some ⟨g, 0, none⟩ ∧ w.heap.size ≤ g ∧ g < w1.heap.size := by
    obtain ⟨g, h1, h2, h3⟩ := OwnB.at_ HOQ.out HNQ.out.symm (by omega)
    simp at h2
    exact ⟨g, h1, by omega, h3⟩
  subst hA
  have hcap := hrd.cap
  have hTN := turn_any (some ⟨g, 0, none⟩) m cq BD at' mask 32 32 w1 (by
    have h := hrd.take (k := m) (by omega)
    rwa [← hbl, List.take_left, hbl] at h) (by omega) hm (by omega) rfl
  have hDR : Rd w1 (some ⟨g, m, none⟩) 4 (cq - m) (be (Crc.sum BD) 4) := by
    have h := hrd.drop (k := m) (by omega)
    rw [if_neg (by omega), Nat.add_sub_cancel_left] at h
    rw [← hbl, List.drop_left, hbl] at h
    simpa [add_none] using h
  obtain ⟨q, hq⟩ : ∃ x, x = (Crc.turn BD at' mask 32).1 := ⟨_, rfl⟩
  obtain ⟨TT, hTT⟩ : ∃ x, x = (Crc.turn BD at' mask 32).2 := ⟨_, rfl⟩
  have hql : q.length = m := by rw [hq, Crc.turn_len, hbl]
  have hget : (getS (q ++ be (Crc.sum BD) 4)).isSome = !TT := by rw [hq, hTT, hBD]; exact turned_get HCK.out.symm at' mask
  rw [← hq, ← hTT] at hTN
  have HTN := Lib.hid hTN
  have HDR := Lib.hid hDR
  have HGET := Lib.hid hget
  have HQL := Lib.hid hql
  have hsub : IntKind.i64.wrap (((m + 4 : Nat) : Int) - 4) = (m : Int) := by rw [IntWalk.i64_in _ (by omega)]; omega
  have d1 : decide (((m + 4 : Nat) : Int) < 4) = false := by simp; omega
  have hcm : ¬ cq = m := by omega
  have hmc : m ≤ cq := by omega
  have hm0 : (0 : Int) ≤ (m : Int) := by omega
  have hm1 : (m : Int) ≤ (cq : Int) := by omega
  clear hpt hlen hrd hbl hcap hTN hDR hq hTT hql hget HNQ HOQ HCK
  go_wp2_with fail
  refine HTN.out.mono ?_
  rintro e2 w2 ⟨A2', c2', rfl, ho2, hb2⟩
  have hs2 := hb2.size
  have HB2 := Lib.hid (HB1.out.trans (hb2.mono (by omega)))
  have HO2 := Lib.hid (OwnB.row ho2 HQL.out)
  have HR2 := Lib.hid (HDR.out.below hb2)
  clear ho2 hb2 HTN HDR
  go_wp2_with (first | ((with_reducible show wpList _ _ _ (⟨some 49, _, _, _, _, _⟩ :: _) _ _); refine wpList_app _ rfl elemB (.tmp 43) (.tmp 48) rfl rfl HO2.out rfl HR2.out.src (m + 4) rfl (by omega) (by omega) ?_; intro A4 c4 w4 hown4 hg4 _; have HB4 := Lib.hid (HB2.out.trans ((below_app HO2.out hg4 (by omega)).mono (by omega))); have HO4 := Lib.hid hown4; have hs4 := hg4.size; clear hown4 hg4) | fail)
  have hr4 : Rd w4 A4 (m + 4) c4 (q ++ be (Crc.sum BD) 4) := OwnB.rd (OwnB.of HO4.out _ (by rw [bs_append])) (by rw [List.length_append, HQL.out, be_len]) (by omega)
  refine (sget_any A4 (m + 4) c4 _ w4 hr4).mono ?_
  rintro e5 w5 ⟨hb5, hg5⟩
  have HB5 := Lib.hid (HB4.out.trans (hb5.mono (by have := HB4.out.size; omega)))
  have hs5 := hb5.size
  have hget := HGET.out
  cases hgl : getS (q ++ be (Crc.sum BD) 4) with
  | none =>
    rw [hgl] at hg5 hget
    obtain rfl : e5 = _ := hg5
    obtain rfl : TT = true := by simpa using hget.symm
    clear hb5 hget HGET hr4 hgl
    unfold st0
    go_wp2_with fail
    refine (sawake_any _).mono ?_
    rintro e9 w9 ⟨rfl, hb9⟩
    have HB9 := Lib.hid (HB5.out.trans ((((Below.refl w5.heap.size w5).alloc (Nat.le_refl _) _).trans (hb9.mono (by simp))).mono (by have := HB4.out.size; omega)))
    clear hb9
    go_wp2_with fail
    go_ret
    exact ⟨rfl, HB9.out⟩
  | some s5 =>
    rw [hgl] at hg5 hget
    obtain ⟨v5, rfl, _⟩ := hg5
    obtain rfl : TT = false := by simpa using hget.symm
    obtain ⟨E1, i1, j1, E2, i2, j2, E3, i3, j3⟩ := v5
    clear hb5 hget HGET hr4 hgl
    unfold stv
    simp only
    go_wp2_with fail
    refine (sawake_any _).mono ?_
    rintro e9 w9 ⟨rfl, hb9⟩
    have HB9 := Lib.hid (HB5.out.trans ((((Below.refl w5.heap.size w5).alloc (Nat.le_refl _) _).trans (hb9.mono (by simp))).mono (by have := HB4.out.size; omega)))
    clear hb9
    go_wp2_with fail
    go_ret
    exact ⟨rfl, HB9.out⟩
end Go.Proofs.Ytcnlgcmooegfkaa
