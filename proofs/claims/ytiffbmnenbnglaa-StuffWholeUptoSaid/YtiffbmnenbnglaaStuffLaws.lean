/-
  THE STATEMENTS' WALKS OVER STUFFED BYTES.
-/
import Derived.Test.YtiffbmnenbnglaaStuffRef
import Derived.Test.YtiffbmnenbnglaaStuffLaw1
namespace Go.Proofs.Ytiffbmnenbnglaa
open Go.RowKit

set_option maxHeartbeats 1000000 in
/-- StuffUnstuffs -/
theorem unstuffs_law (A : Option Addr) (n c : Nat) (l : List UInt8) (w : World) (hR : Rd w A n c l) (hn : n ≤ 140737488355000) :
    Calls Try.prog 3 #[.slice A n c] w fun e w' => e = .returned (.bool true) ∧ Below w.heap.size w w' := by
  have U := fun W h => unstuff_any A n c l W h hn
  have V := fun W h => runstuff_any A n c l W h hn
  have hl : (Stf.bytesOf l).length = Stf.lenOf l := rfl
  have hb : Stf.lenOf l ≤ n := by
    have h1 := hR.len
    unfold Stf.lenOf Stf.bytesOf
    cases h : Stf.unstuff false l with
    | none => simp
    | some m =>
      have := Stf.there l m h
      have := (Stf.size_bounds m).1
      simp
      rw [← h1, ← Stf.there l m h]
      exact this
  obtain ⟨N, hN⟩ : ∃ N, N = Stf.lenOf l := ⟨_, rfl⟩
  obtain ⟨q, hq⟩ : ∃ q, q = Stf.bytesOf l := ⟨_, rfl⟩
  obtain ⟨E, hE⟩ : ∃ E, E = Stf.errOf l := ⟨_, rfl⟩
  simp only [← hN, ← hq, ← hE] at U V hl hb
  have HU := Lib.hid U
  have HV := Lib.hid V
  have HL := Lib.hid hl
  clear U V hl hN hq hE
  go_enter Try.func3, Try.ntmps3
  go_wp2_with fail
  refine (HU.out _ hR).mono ?_
  rintro e w1 ⟨A1, c1, rfl, ho1, hb1⟩
  have hr1 := ho1.rd HL.out (by omega)
  go_wp2_with fail
  refine (HV.out _ (hR.below hb1)).mono ?_
  rintro e w2 ⟨A2, c2, rfl, ho2, hb2⟩
  have hr2 := ho2.rd HL.out (by omega)
  have k1 := (hr1.below hb2).string (P := Try.prog) 22 9 5 Try.underlying22 Try.underlying5 Try.underlying9
  have k2 := hr2.string (P := Try.prog) 22 9 5 Try.underlying22 Try.underlying5 Try.underlying9
  have hb3 := hb1.trans (hb2.mono hb1.size)
  go_wp2_with (go_at_call 12; refine (awake_any _).mono ?_; rintro e w' ⟨rfl, hb4⟩)
  go_ret
  exact ⟨rfl, hb3.trans (hb4.mono hb3.size)⟩

set_option maxHeartbeats 2000000 in
/-- StuffBack -/
theorem back_law (A D : Option Addr) (n c m d : Nat) (p q : List UInt8) (w : World) (hR : Rd w A n c p) (hQ : Rd w D m d q) (hn : n ≤ 70368744177000) (hm : m ≤ 70368744177000) :
    Calls Try.prog 4 #[.slice A n c, .slice D m d] w fun e w' => e = .returned (.bool true) ∧ Below w.heap.size w w' := by
  have T := stuff_any A n c p w hR hn
  have hsz := (size_le p).1
  rw [hR.len] at hsz
  have U := fun W A c (h : Rd W A (Stf.size p) c (Stf.stuff p)) => unstuff_any A _ c _ W h (by omega)
  obtain ⟨o1, o2, o3⟩ := Stf.of_stuff p
  simp only [o1, o2, o3, hR.len] at U
  have V := fun W h => unstuff_any D m d q W h (by omega)
  have hl : (Stf.bytesOf q).length = Stf.lenOf q := rfl
  have hl0 : (Stf.stuff p).length = Stf.size p := rfl
  have hle : Stf.lenOf q ≤ m ∧ (Stf.errOf q = 0 → Stf.stuff (Stf.bytesOf q) = q) ∧ (Stf.errOf q = 0 ∨ Stf.errOf q = 2) := by
    have h1 := hQ.len
    unfold Stf.lenOf Stf.bytesOf Stf.errOf
    cases h : Stf.unstuff false q with
    | none => simp
    | some x =>
      have h2 := Stf.there q x h
      have h3 := (Stf.size_bounds x).1
      rw [h2, h1] at h3
      exact ⟨by simpa using h3, fun _ => by simpa using h2, by simp⟩
  have hlp := Lib.hid hR.len
  have hql := Lib.hid hQ.len
  obtain ⟨hM, hback, hE⟩ := hle
  have S : Stf.errOf q = 0 → ∀ W A c, Rd W A (Stf.lenOf q) c (Stf.bytesOf q) → Calls Try.prog 13 #[.slice A (Stf.lenOf q) c] W fun e w' => ∃ A' c', e = .returned (.slice A' m c') ∧ OwnB w' W.heap.size 5 (.slice A' m c') q ∧ Below W.heap.size W w' := fun hz W A c h => by
    have := stuff_any A _ c _ W h (by omega)
    have e : Stf.size (Stf.bytesOf q) = m := by unfold Stf.size; rw [hback hz, hql.out]
    rwa [e, hback hz] at this
  clear hback
  obtain ⟨N, hN⟩ : ∃ N, N = Stf.size p := ⟨_, rfl⟩
  obtain ⟨s, hs⟩ : ∃ s, s = Stf.stuff p := ⟨_, rfl⟩
  obtain ⟨M, hMM⟩ : ∃ M, M = Stf.lenOf q := ⟨_, rfl⟩
  obtain ⟨b, hbb⟩ : ∃ b, b = Stf.bytesOf q := ⟨_, rfl⟩
  obtain ⟨E, hEE⟩ : ∃ E, E = Stf.errOf q := ⟨_, rfl⟩
  simp only [← hN, ← hs, ← hMM, ← hbb, ← hEE] at T U V hl hl0 hM hE S hsz
  have HT := Lib.hid T
  have HU := Lib.hid U
  have HV := Lib.hid V
  have HL := Lib.hid hl
  have HL0 := Lib.hid hl0
  have HS0 := Lib.hid S
  clear T U V hl hl0 S hN hs hMM hbb hEE o1 o2 o3
  rcases hE with rfl | rfl
  · have HS := Lib.hid (HS0.out rfl)
    clear HS0
    go_enter Try.func4, Try.ntmps4
    go_wp2_with fail
    refine HT.out.mono ?_
    rintro e w1 ⟨A1, c1, rfl, ho1, hb1⟩
    have hr1 := ho1.rd HL0.out (by omega)
    go_wp2_with fail
    refine (HU.out _ _ _ hr1).mono ?_
    rintro e w2 ⟨A2, c2, rfl, ho2, hb2⟩
    have hr2 := ho2.rd hlp.out (by omega)
    have hb3 := hb1.trans (hb2.mono hb1.size)
    have k1 := hr2.string (P := Try.prog) 22 9 5 Try.underlying22 Try.underlying5 Try.underlying9
    have k2 := (hR.below hb3).string (P := Try.prog) 22 9 5 Try.underlying22 Try.underlying5 Try.underlying9
    go_wp2_with fail
    clear k1 k2
    refine (HV.out _ (hQ.below hb3)).mono ?_
    rintro e w4 ⟨A4, c4, rfl, ho4, hb4⟩
    have hr4 := ho4.rd HL.out (by omega)
    have hb5 := hb3.trans (hb4.mono hb3.size)
    have hq4 := hQ.below hb5
    go_wp2_with fail
    refine Free.wp_seq (I := fun w' => Below w4.heap.size w4 w') (Gr := fun w1 w2 => Below w1.heap.size w1 w2) (by kernel_rfl) (by kernel_rfl) (Below.refl _ _).drew ?_
    refine Free.Seq.val ?_ (fun _ => Below.refl _ _) (fun a w1 hI hp => ?_) ?_
    rotate_left
    · have e8 := hp.slotV 8 (by kernel_rfl) rfl; simp at e8
      refine ⟨Free.want_none rfl, ?_⟩
      clear hp
      go_simp
      rfl
    refine Free.Seq.val ?_ (fun _ => Below.refl _ _) (fun a w1 hI hp => ?_) ?_
    rotate_left
    · have e29 := hp.backV 0 0 rfl rfl rfl rfl rfl
      refine ⟨Free.want_none rfl, ?_⟩
      clear hp
      go_simp
      rfl
    refine Free.Seq.val ?_ (fun _ => Below.refl _ _) (fun a w1 hI hp => ?_) ?_
    rotate_left
    · have e30 := hp.backV 1 0 rfl rfl rfl rfl rfl
      refine ⟨Free.want_none rfl, ?_⟩
      clear hp
      go_simp
      rfl
    refine Free.Seq.val ?_ (fun _ => Below.refl _ _) (fun a w1 hI hp => ?_) ?_
    rotate_left
    · have e31 := hp.backV 2 0 rfl rfl rfl rfl rfl; have e7 := hp.slotV 7 (by kernel_rfl) rfl; simp at e7
      refine ⟨hp.want rfl rfl rfl e31, ?_⟩
      clear hp
      go_simp
      rfl
    refine Free.Seq.call (T := fun v w' => ∃ A' c', v = .slice A' m c' ∧ Rd w' A' m c' q) (by rintro v w1 w2 ⟨A', c', rfl, hr⟩ hg; exact ⟨_, _, rfl, hr.below hg⟩) (fun a w1 hI hp => ?_) ?_
    · have e31 := hp.backV 2 1 rfl rfl rfl rfl rfl; have e32 := hp.backV 3 0 rfl rfl rfl rfl rfl
      refine ⟨hp.want rfl rfl rfl e31, 13, #[.slice A4 M c4], ?_, ?_⟩
      · clear hp
        go_simp
      · refine (HS.out _ _ _ (hr4.below hI)).mono ?_
        rintro e w' ⟨A', c', rfl, hown, hb⟩
        exact ⟨_, rfl, ⟨_, _, rfl, hown.rd hql.out (by omega)⟩, hb, hI.trans (hb.mono hI.size)⟩
    refine Free.Seq.val ?_ (fun _ => Below.refl _ _) (fun a w1 hI hp => ?_) ?_
    rotate_left
    · have e31 := hp.backV 2 2 rfl rfl rfl rfl rfl
      obtain ⟨A', c', e33, hr⟩ := hp.back 4 0 rfl rfl rfl rfl rfl
      have hc := hr.string (P := Try.prog) 22 9 5 Try.underlying22 Try.underlying5 Try.underlying9
      refine ⟨hp.want rfl rfl rfl e31, ?_⟩
      clear hp
      go_simp
      rfl
    refine Free.Seq.val ?_ (fun _ => Below.refl _ _) (fun a w1 hI hp => ?_) ?_
    rotate_left
    · have e31 := hp.backV 2 3 rfl rfl rfl rfl rfl; have e1 := hp.slotV 1 (by kernel_rfl) rfl; simp at e1
      refine ⟨hp.want rfl rfl rfl e31, ?_⟩
      clear hp
      go_simp
      rfl
    refine Free.Seq.val ?_ (fun _ => Below.refl _ _) (fun a w1 hI hp => ?_) ?_
    rotate_left
    · have e31 := hp.backV 2 4 rfl rfl rfl rfl rfl; have e35 := hp.backV 6 0 rfl rfl rfl rfl rfl
      have hc := (hq4.below hI).string (P := Try.prog) 22 9 5 Try.underlying22 Try.underlying5 Try.underlying9
      refine ⟨hp.want rfl rfl rfl e31, ?_⟩
      clear hp
      go_simp
      rfl
    refine Free.Seq.val ?_ (fun _ => Below.refl _ _) (fun a w1 hI hp => ?_) ?_
    rotate_left
    · have e31 := hp.backV 2 5 rfl rfl rfl rfl rfl; have e34 := hp.backV 5 2 rfl rfl rfl rfl rfl; have e36 := hp.backV 7 0 rfl rfl rfl rfl rfl
      refine ⟨hp.want rfl rfl rfl e31, ?_⟩
      clear hp
      go_simp
      rfl
    refine Free.Seq.val ?_ (fun _ => Below.refl _ _) (fun a w1 hI hp => ?_) ?_
    rotate_left
    · have e31 := hp.backV 2 6 rfl rfl rfl rfl rfl; have e37 := hp.backV 8 0 rfl rfl rfl rfl rfl
      refine ⟨Free.want_none rfl, ?_⟩
      clear hp
      go_simp
      rfl
    refine Free.Seq.val ?_ (fun _ => Below.refl _ _) (fun a w1 hI hp => ?_) ?_
    rotate_left
    · have e38 := hp.backV 9 0 rfl rfl rfl rfl rfl
      refine ⟨Free.want_none rfl, ?_⟩
      clear hp
      go_simp
      rfl
    refine Free.Seq.call (T := Free.eqF (.bool true)) (fun _ _ _ h _ => h) (fun a w1 hI hp => ?_) ?_
    · have e39 := hp.backV 10 0 rfl rfl rfl rfl rfl
      refine ⟨hp.want rfl rfl rfl e39, 12, #[], ?_, ?_⟩
      · clear hp
        go_simp
      · refine (awake_any _).mono ?_
        rintro e w' ⟨rfl, hb⟩
        exact ⟨_, rfl, rfl, hb, hI.trans (hb.mono hI.size)⟩
    refine Free.Seq.val ?_ (fun _ => Below.refl _ _) (fun a w1 hI hp => ?_) ?_
    rotate_left
    · have e39 := hp.backV 10 1 rfl rfl rfl rfl rfl; have e40 := hp.backV 11 0 rfl rfl rfl rfl rfl
      refine ⟨Free.want_none rfl, ?_⟩
      clear hp
      go_simp
      rfl
    refine Free.Seq.val ?_ (fun _ => Below.refl _ _) (fun a w1 hI hp => ?_) ?_
    rotate_left
    · have e41 := hp.backV 12 0 rfl rfl rfl rfl rfl
      refine ⟨Free.want_none rfl, ?_⟩
      clear hp
      go_simp
      rfl
    refine Free.Seq.done (by simp) (fun wz hIz => ?_)
    simp only [List.reverse_cons, List.reverse_nil, List.nil_append, List.cons_append, Free.All, Free.eqF, forall_eq]
    rintro x ⟨A9, c9, rfl, _⟩
    simp only [Free.putL, Act.put, List.setIfInBounds_toArray, List.set_cons_zero, List.set_cons_succ]
    go_wp2
    go_ret
    exact ⟨rfl, hb5.trans (hIz.mono hb5.size)⟩
  · clear HS0
    go_enter Try.func4, Try.ntmps4
    go_wp2_with fail
    refine HT.out.mono ?_
    rintro e w1 ⟨A1, c1, rfl, ho1, hb1⟩
    have hr1 := ho1.rd HL0.out (by omega)
    go_wp2_with fail
    refine (HU.out _ _ _ hr1).mono ?_
    rintro e w2 ⟨A2, c2, rfl, ho2, hb2⟩
    have hr2 := ho2.rd hlp.out (by omega)
    have hb3 := hb1.trans (hb2.mono hb1.size)
    have k1 := hr2.string (P := Try.prog) 22 9 5 Try.underlying22 Try.underlying5 Try.underlying9
    have k2 := (hR.below hb3).string (P := Try.prog) 22 9 5 Try.underlying22 Try.underlying5 Try.underlying9
    go_wp2_with fail
    clear k1 k2
    refine (HV.out _ (hQ.below hb3)).mono ?_
    rintro e w4 ⟨A4, c4, rfl, ho4, hb4⟩
    have hb5 := hb3.trans (hb4.mono hb3.size)
    go_wp2_with fail
    refine Free.wp_seq (I := fun w' => Below w4.heap.size w4 w') (Gr := fun w1 w2 => Below w1.heap.size w1 w2) (by kernel_rfl) (by kernel_rfl) (Below.refl _ _).drew ?_
    refine Free.Seq.val ?_ (fun _ => Below.refl _ _) (fun a w1 hI hp => ?_) ?_
    rotate_left
    · have e8 := hp.slotV 8 (by kernel_rfl) rfl; simp at e8
      refine ⟨Free.want_none rfl, ?_⟩
      clear hp
      go_simp
      rfl
    refine Free.Seq.val ?_ (fun _ => Below.refl _ _) (fun a w1 hI hp => ?_) ?_
    rotate_left
    · have e29 := hp.backV 0 0 rfl rfl rfl rfl rfl
      refine ⟨Free.want_none rfl, ?_⟩
      clear hp
      go_simp
      rfl
    refine Free.Seq.val ?_ (fun _ => Below.refl _ _) (fun a w1 hI hp => ?_) ?_
    rotate_left
    · have e30 := hp.backV 1 0 rfl rfl rfl rfl rfl
      refine ⟨Free.want_none rfl, ?_⟩
      clear hp
      go_simp
      rfl
    refine Free.Seq.pass (fun a w1 hI hp => hp.pass rfl rfl rfl (hp.backV 2 0 rfl rfl rfl rfl rfl)) ?_
    refine Free.Seq.pass (fun a w1 hI hp => hp.pass rfl rfl rfl (hp.backV 2 1 rfl rfl rfl rfl rfl)) ?_
    refine Free.Seq.pass (fun a w1 hI hp => hp.pass rfl rfl rfl (hp.backV 2 2 rfl rfl rfl rfl rfl)) ?_
    refine Free.Seq.pass (fun a w1 hI hp => hp.pass rfl rfl rfl (hp.backV 2 3 rfl rfl rfl rfl rfl)) ?_
    refine Free.Seq.pass (fun a w1 hI hp => hp.pass rfl rfl rfl (hp.backV 2 4 rfl rfl rfl rfl rfl)) ?_
    refine Free.Seq.pass (fun a w1 hI hp => hp.pass rfl rfl rfl (hp.backV 2 5 rfl rfl rfl rfl rfl)) ?_
    refine Free.Seq.val ?_ (fun _ => Below.refl _ _) (fun a w1 hI hp => ?_) ?_
    rotate_left
    · have e31 := hp.backV 2 6 rfl rfl rfl rfl rfl; have e37 := hp.backV 8 0 rfl rfl rfl rfl rfl
      refine ⟨Free.want_none rfl, ?_⟩
      clear hp
      go_simp
      rfl
    refine Free.Seq.val ?_ (fun _ => Below.refl _ _) (fun a w1 hI hp => ?_) ?_
    rotate_left
    · have e38 := hp.backV 9 0 rfl rfl rfl rfl rfl
      refine ⟨Free.want_none rfl, ?_⟩
      clear hp
      go_simp
      rfl
    refine Free.Seq.call (T := Free.eqF (.bool true)) (fun _ _ _ h _ => h) (fun a w1 hI hp => ?_) ?_
    · have e39 := hp.backV 10 0 rfl rfl rfl rfl rfl
      refine ⟨hp.want rfl rfl rfl e39, 12, #[], ?_, ?_⟩
      · clear hp
        go_simp
      · refine (awake_any _).mono ?_
        rintro e w' ⟨rfl, hb⟩
        exact ⟨_, rfl, rfl, hb, hI.trans (hb.mono hI.size)⟩
    refine Free.Seq.val ?_ (fun _ => Below.refl _ _) (fun a w1 hI hp => ?_) ?_
    rotate_left
    · have e39 := hp.backV 10 1 rfl rfl rfl rfl rfl; have e40 := hp.backV 11 0 rfl rfl rfl rfl rfl
      refine ⟨Free.want_none rfl, ?_⟩
      clear hp
      go_simp
      rfl
    refine Free.Seq.val ?_ (fun _ => Below.refl _ _) (fun a w1 hI hp => ?_) ?_
    rotate_left
    · have e41 := hp.backV 12 0 rfl rfl rfl rfl rfl
      refine ⟨Free.want_none rfl, ?_⟩
      clear hp
      go_simp
      rfl
    refine Free.Seq.done (by simp) (fun wz hIz => ?_)
    simp only [List.reverse_cons, List.reverse_nil, List.nil_append, List.cons_append, Free.All, Free.eqF, forall_eq]
    skip
    simp only [Free.putL, Act.put, List.setIfInBounds_toArray, List.set_cons_zero, List.set_cons_succ]
    go_wp2
    go_ret
    exact ⟨rfl, hb5.trans (hIz.mono hb5.size)⟩
theorem add_strings {P : Program} (w : World) (a b : List UInt8) (h : a.length + b.length ≤ 9223372036854775807) : (Op.stringOp .add ⟨a.toArray⟩ ⟨b.toArray⟩).run P w = .ok (.string ⟨(a ++ b).toArray⟩) w := by
  rw [← ByteArray.mk_append_mk]
  exact run_string_add_sum (P := P) (w := w) _ _ (by simpa [ByteArray.size] using h)

set_option maxHeartbeats 2000000 in
/-- StuffStuffs -/
theorem stuffs_law (A : Option Addr) (n c : Nat) (l : List UInt8) (w : World) (hR : Rd w A n c l) (hn : n ≤ 70368744177000) :
    Calls Try.prog 6 #[.slice A n c] w fun e w' => e = .returned (.bool true) ∧ Below w.heap.size w w' := by
  have hlen := Lib.hid hR.len
  have T := fun W A c h => stuff_any A n c l W h hn
  have R2 := fun W h => rstuff_any A n c l W h hn
  have Z := fun W h => size_any A n c l W h hn
  have hl : (Stf.stuff l).length = Stf.size l := rfl
  have hsz := (size_le l).1
  rw [hR.len] at hsz
  obtain ⟨N, hN⟩ : ∃ N, N = Stf.size l := ⟨_, rfl⟩
  obtain ⟨q, hq⟩ : ∃ q, q = Stf.stuff l := ⟨_, rfl⟩
  simp only [← hN, ← hq] at T R2 Z hl hsz
  have HT := Lib.hid T
  have HR2 := Lib.hid R2
  have HZ := Lib.hid Z
  have HL := Lib.hid hl
  clear T R2 Z hl hN hq
  go_enter Try.func6, Try.ntmps6
  go_wp2_with (at_builtin; refine wpList_app _ rfl elemB (.tmp 6) (.tmp 7) rfl rfl (own_empty _ w.heap.size _ _ 1 (by simp) (by omega)) rfl ((hR.stays (Stays.alloc w _)).src) n (by omega) (by omega) (by simp) ?_; intro A1 c1 w2 hown1 hg1 hat1)
  have hb2 := below_app' ((Below.refl _ _).alloc (Nat.le_refl _) _) (own_empty _ w.heap.size _ _ 1 (by simp) (by omega)) hg1 (Nat.le_refl _) (by simp)
  have ho2 := OwnB.of hown1 l (by simp)
  clear hown1 hg1 hat1
  refine (HT.out _ _ _ (ho2.rd hlen.out (by omega))).mono ?_
  rintro e w3 ⟨A2, c2, rfl, ho3, hb3⟩
  have hb4 := hb2.trans (hb3.mono hb2.size)
  have HG : Hid (∀ g, A1 = some ⟨g, 0, none⟩ → g < w2.heap.size) := fun g hg => by
    subst hg
    exact (ho2.lt g rfl).2
  go_wp2_with fail
  go_loopw [5] (fun i wr => ∃ k : Nat, k ≤ n ∧ i = .int .i64 k ∧ (∃ x : List UInt8, x.length = n ∧ OwnB wr w.heap.size 5 (.slice A1 n c1) x) ∧ OwnB wr w2.heap.size 5 (.slice A2 N c2) q ∧ Below w.heap.size w wr) (fun i _ => n - (intOf i).toNat)
  case atStart => exact ⟨0, Nat.zero_le _, rfl, ⟨l, hlen.out, own_below ho2 hb3⟩, ho3, hb4⟩
  case round =>
    obtain ⟨k, hk, rfl, ⟨x, hx, hox⟩, hos, hb⟩ := hrel
    by_cases hlt : k < n
    · obtain ⟨g, rfl, hg, hgl⟩ := hox.at_ hx (by omega)
      have hgw := HG.out g rfl
      have hcell := hox.cell hx k hlt
      have hfree := hox.free hx k
      have hst := hox.store hx k (255 - x.getD k 0)
      have hos' := ownsRow_setCell_below hos (a := ⟨g, k, none⟩) hgw (bv (255 - x.getD k 0))
      obtain ⟨y, hy⟩ : ∃ y, y = x.getD k 0 := ⟨_, rfl⟩
      rw [← hy] at hcell hst hos'
      have H1 := Lib.hid hst
      have H2 := Lib.hid hos'
      have HX := Lib.hid hx
      clear hst hos' hx hy
      go_wp2_with fail
      go_roundw
      case rel =>
        rw [inv_byte]
        exact ⟨k + 1, by omega, by go_num, ⟨_, by rw [List.length_set]; exact HX.out, H1.out⟩, H2.out, hb.setCell hg _⟩
      case measure => simp [intOf]; omega
    · obtain rfl : n = k := by omega
      have hs1 := hos.rd HL.out (by omega)
      have hp0 := hR.below hb
      go_wp2_with fail
      refine Free.wp_seq (I := fun w' => Below wr.heap.size wr w') (Gr := fun w1 w2 => Below w1.heap.size w1 w2) (by kernel_rfl) (by kernel_rfl) (Below.refl _ _).drew ?_
      refine Free.Seq.val ?_ (fun _ => Below.refl _ _) (fun a w1 hI hp => ?_) ?_
      rotate_left
      · have e4 := hp.slotV 4 (by kernel_rfl) rfl; simp at e4
        refine ⟨Free.want_none rfl, ?_⟩
        clear hp
        go_simp
        rfl
      refine Free.Seq.val ?_ (fun _ => Below.refl _ _) (fun a w1 hI hp => ?_) ?_
      rotate_left
      · have e25 := hp.backV 0 0 rfl rfl rfl rfl rfl
        have hc := (hs1.below hI).string (P := Try.prog) 22 9 5 Try.underlying22 Try.underlying5 Try.underlying9
        refine ⟨Free.want_none rfl, ?_⟩
        clear hp
        go_simp
        rfl
      refine Free.Seq.val ?_ (fun _ => Below.refl _ _) (fun a w1 hI hp => ?_) ?_
      rotate_left
      · have e0 := hp.slotV 0 (by kernel_rfl) rfl; simp at e0
        refine ⟨Free.want_none rfl, ?_⟩
        clear hp
        go_simp
        rfl
      refine Free.Seq.call (T := fun v w' => ∃ A' c', v = .slice A' N c' ∧ Rd w' A' N c' q) (by rintro v w1 w2 ⟨A', c', rfl, hr⟩ hg; exact ⟨_, _, rfl, hr.below hg⟩) (fun a w1 hI hp => ?_) ?_
      · have e27 := hp.backV 2 0 rfl rfl rfl rfl rfl
        refine ⟨Free.want_none rfl, 15, #[.slice A n c], ?_, ?_⟩
        · clear hp
          go_simp
        · refine (HR2.out _ (hp0.below hI)).mono ?_
          rintro e w' ⟨A', c', rfl, hown, hb⟩
          exact ⟨_, rfl, ⟨_, _, rfl, hown.rd HL.out (by omega)⟩, hb, hI.trans (hb.mono hI.size)⟩
      refine Free.Seq.val ?_ (fun _ => Below.refl _ _) (fun a w1 hI hp => ?_) ?_
      rotate_left
      · skip
        obtain ⟨A', c', e28, hr⟩ := hp.back 3 0 rfl rfl rfl rfl rfl
        have hc := hr.string (P := Try.prog) 22 9 5 Try.underlying22 Try.underlying5 Try.underlying9
        refine ⟨Free.want_none rfl, ?_⟩
        clear hp
        go_simp
        rfl
      refine Free.Seq.val ?_ (fun _ => Below.refl _ _) (fun a w1 hI hp => ?_) ?_
      rotate_left
      · have e26 := hp.backV 1 3 rfl rfl rfl rfl rfl; have e29 := hp.backV 4 0 rfl rfl rfl rfl rfl
        refine ⟨Free.want_none rfl, ?_⟩
        clear hp
        go_simp
        rfl
      refine Free.Seq.val ?_ (fun _ => Below.refl _ _) (fun a w1 hI hp => ?_) ?_
      rotate_left
      · have e30 := hp.backV 5 0 rfl rfl rfl rfl rfl
        refine ⟨Free.want_none rfl, ?_⟩
        clear hp
        go_simp
        rfl
      refine Free.Seq.val ?_ (fun _ => Below.refl _ _) (fun a w1 hI hp => ?_) ?_
      rotate_left
      · have e31 := hp.backV 6 0 rfl rfl rfl rfl rfl; have e0 := hp.slotV 0 (by kernel_rfl) rfl; simp at e0
        refine ⟨hp.want rfl rfl rfl e31, ?_⟩
        clear hp
        go_simp
        rfl
      refine Free.Seq.call (T := Free.eqF (.int .i64 (N : Int))) (fun _ _ _ h _ => h) (fun a w1 hI hp => ?_) ?_
      · have e31 := hp.backV 6 1 rfl rfl rfl rfl rfl; have e32 := hp.backV 7 0 rfl rfl rfl rfl rfl
        refine ⟨hp.want rfl rfl rfl e31, 16, #[.slice A n c], ?_, ?_⟩
        · clear hp
          go_simp
        · refine (HZ.out _ (hp0.below hI)).mono ?_
          rintro e w' ⟨rfl, rfl⟩
          exact ⟨_, rfl, rfl, Below.refl _ _, hI⟩
      refine Free.Seq.val ?_ (fun _ => Below.refl _ _) (fun a w1 hI hp => ?_) ?_
      rotate_left
      · have e31 := hp.backV 6 2 rfl rfl rfl rfl rfl; have e4 := hp.slotV 4 (by kernel_rfl) rfl; simp at e4
        refine ⟨hp.want rfl rfl rfl e31, ?_⟩
        clear hp
        go_simp
        rfl
      refine Free.Seq.val ?_ (fun _ => Below.refl _ _) (fun a w1 hI hp => ?_) ?_
      rotate_left
      · have e31 := hp.backV 6 3 rfl rfl rfl rfl rfl; have e34 := hp.backV 9 0 rfl rfl rfl rfl rfl
        refine ⟨hp.want rfl rfl rfl e31, ?_⟩
        clear hp
        go_simp
        rfl
      refine Free.Seq.val ?_ (fun _ => Below.refl _ _) (fun a w1 hI hp => ?_) ?_
      rotate_left
      · have e31 := hp.backV 6 4 rfl rfl rfl rfl rfl; have e33 := hp.backV 8 2 rfl rfl rfl rfl rfl; have e35 := hp.backV 10 0 rfl rfl rfl rfl rfl
        refine ⟨hp.want rfl rfl rfl e31, ?_⟩
        clear hp
        go_simp
        rfl
      refine Free.Seq.val ?_ (fun _ => Below.refl _ _) (fun a w1 hI hp => ?_) ?_
      rotate_left
      · have e31 := hp.backV 6 5 rfl rfl rfl rfl rfl; have e36 := hp.backV 11 0 rfl rfl rfl rfl rfl
        refine ⟨Free.want_none rfl, ?_⟩
        clear hp
        go_simp
        rfl
      refine Free.Seq.val ?_ (fun _ => Below.refl _ _) (fun a w1 hI hp => ?_) ?_
      rotate_left
      · have e37 := hp.backV 12 0 rfl rfl rfl rfl rfl
        refine ⟨Free.want_none rfl, ?_⟩
        clear hp
        go_simp
        rfl
      refine Free.Seq.call (T := Free.eqF (.bool true)) (fun _ _ _ h _ => h) (fun a w1 hI hp => ?_) ?_
      · have e38 := hp.backV 13 0 rfl rfl rfl rfl rfl
        refine ⟨hp.want rfl rfl rfl e38, 12, #[], ?_, ?_⟩
        · clear hp
          go_simp
        · refine (awake_any _).mono ?_
          rintro e w' ⟨rfl, hb⟩
          exact ⟨_, rfl, rfl, hb, hI.trans (hb.mono hI.size)⟩
      refine Free.Seq.val ?_ (fun _ => Below.refl _ _) (fun a w1 hI hp => ?_) ?_
      rotate_left
      · have e38 := hp.backV 13 1 rfl rfl rfl rfl rfl; have e39 := hp.backV 14 0 rfl rfl rfl rfl rfl
        refine ⟨Free.want_none rfl, ?_⟩
        clear hp
        go_simp
        rfl
      refine Free.Seq.val ?_ (fun _ => Below.refl _ _) (fun a w1 hI hp => ?_) ?_
      rotate_left
      · have e40 := hp.backV 15 0 rfl rfl rfl rfl rfl
        refine ⟨Free.want_none rfl, ?_⟩
        clear hp
        go_simp
        rfl
      refine Free.Seq.done (by simp) (fun wz hIz => ?_)
      simp only [List.reverse_cons, List.reverse_nil, List.nil_append, List.cons_append, Free.All, Free.eqF, forall_eq]
      rintro x ⟨A9, c9, rfl, _⟩
      simp only [Free.putL, Act.put, List.setIfInBounds_toArray, List.set_cons_zero, List.set_cons_succ]
      go_wp2
      go_ret
      exact ⟨rfl, hb.trans (hIz.mono hb.size)⟩

set_option maxHeartbeats 2000000 in
/-- StuffJoins -/
theorem joins_law (A D : Option Addr) (n c m d : Nat) (p q : List UInt8) (w : World) (hR : Rd w A n c p) (hQ : Rd w D m d q) (hn : n + m ≤ 70368744177000) :
    Calls Try.prog 7 #[.slice A n c, .slice D m d] w fun e w' => e = .returned (.bool true) ∧ Below w.heap.size w w' := by
  have hlp := Lib.hid hR.len
  have hlq := Lib.hid hQ.len
  have hsa : Stf.size (p ++ q) = Stf.size p + Stf.size q := by unfold Stf.size; rw [Stf.stuff_append]; simp
  have T1 := fun W A c h => stuff_any A (n + m) c (p ++ q) W h hn
  have T2 := fun W h => stuff_any A n c p W h (by omega)
  have T3 := fun W h => stuff_any D m d q W h (by omega)
  have Z1 := fun W A c h => size_any A (n + m) c (p ++ q) W h hn
  have Z2 := fun W h => size_any A n c p W h (by omega)
  have Z3 := fun W h => size_any D m d q W h (by omega)
  rw [hsa] at *
  have hl2 : (Stf.stuff p).length = Stf.size p := rfl
  have hl3 : (Stf.stuff q).length = Stf.size q := rfl
  have hl1 : (Stf.stuff p ++ Stf.stuff q).length = Stf.size p + Stf.size q := by simp [hl2, hl3]
  have hz2 := (size_le p).1
  have hz3 := (size_le q).1
  rw [hR.len] at hz2
  rw [hQ.len] at hz3
  simp only [Stf.stuff_append] at T1
  obtain ⟨N, hN⟩ : ∃ N, N = Stf.size p := ⟨_, rfl⟩
  obtain ⟨M, hM⟩ : ∃ M, M = Stf.size q := ⟨_, rfl⟩
  obtain ⟨sp, hsp⟩ : ∃ s, s = Stf.stuff p := ⟨_, rfl⟩
  obtain ⟨sq, hsq⟩ : ∃ s, s = Stf.stuff q := ⟨_, rfl⟩
  simp only [← hN, ← hM, ← hsp, ← hsq] at T1 T2 T3 Z1 Z2 Z3 hl1 hl2 hl3 hz2 hz3
  have HB := Lib.hid T1
  have HP := Lib.hid T2
  have HQ := Lib.hid T3
  have HBZ := Lib.hid Z1
  have HPZ := Lib.hid Z2
  have HQZ := Lib.hid Z3
  have HBL := Lib.hid hl1
  have HPL := Lib.hid hl2
  have HQL := Lib.hid hl3
  clear T1 T2 T3 Z1 Z2 Z3 hl1 hl2 hl3 hN hM hsp hsq hsa
  go_enter Try.func7, Try.ntmps7
  go_wp2_with (first
    | (at_builtin; refine wpList_app _ rfl elemB (.tmp 6) (.tmp 7) rfl rfl (own_empty _ w.heap.size _ _ 1 (by simp) (by omega)) rfl ((hR.stays (Stays.alloc w _)).src) n (by omega) (by omega) (by simp) ?_; intro A0 c0 w1 hown0 hg0 hat0; have hb1 := below_app' ((Below.refl _ _).alloc (Nat.le_refl _) _) (own_empty _ w.heap.size _ _ 1 (by simp) (by omega)) hg0 (Nat.le_refl _) (by simp))
    | (at_builtin; refine wpList_app _ rfl elemB (.tmp 8) (.tmp 9) rfl rfl hown0 rfl (hQ.below hb1).src (n + m) (by omega) (by omega) hb1.size ?_; intro A1 c1 w2 hown1 hg1 hat1; have hb2 := below_app' hb1 hown0 hg1 (Nat.le_refl _) hb1.size; have hbo := (OwnB.of hown1 (p ++ q) (by simp [bs])).rd (by rw [List.length_append, hlp.out, hlq.out]) (by omega)))
  have hp0 := hR.below hb2
  have hq0 := hQ.below hb2
  clear hown0 hg0 hat0 hown1 hg1 hat1 hb1
  have hw : IntKind.i64.wrap ((N : Int) + (M : Int)) = (N : Int) + (M : Int) := IntWalk.i64_in _ ⟨by omega, by omega⟩
  refine Free.wp_seq (I := fun w' => Below w2.heap.size w2 w') (Gr := fun w1 w2 => Below w1.heap.size w1 w2) (by kernel_rfl) (by kernel_rfl) (Below.refl _ _).drew ?_
  refine Free.Seq.val ?_ (fun _ => Below.refl _ _) (fun a w1 hI hp => ?_) ?_
  rotate_left
  · have e5 := hp.slotV 5 (by kernel_rfl) rfl; simp at e5
    refine ⟨Free.want_none rfl, ?_⟩
    clear hp
    go_simp
    rfl
  refine Free.Seq.call (T := fun v w' => ∃ A' c', v = .slice A' (N + M) c' ∧ Rd w' A' (N + M) c' (sp ++ sq)) (by rintro v w1 w2 ⟨A', c', rfl, hr⟩ hg; exact ⟨_, _, rfl, hr.below hg⟩) (fun a w1 hI hp => ?_) ?_
  · have e11 := hp.backV 0 0 rfl rfl rfl rfl rfl
    refine ⟨Free.want_none rfl, 13, #[.slice A1 (n + m) c1], ?_, ?_⟩
    · clear hp
      go_simp
    · refine (HB.out _ _ _ (hbo.below hI)).mono ?_
      rintro e w' ⟨A', c', rfl, hown, hb⟩
      exact ⟨_, rfl, ⟨_, _, rfl, hown.rd HBL.out (by omega)⟩, hb, hI.trans (hb.mono hI.size)⟩
  refine Free.Seq.val ?_ (fun _ => Below.refl _ _) (fun a w1 hI hp => ?_) ?_
  rotate_left
  · skip
    obtain ⟨A', c', e12, hr⟩ := hp.back 1 0 rfl rfl rfl rfl rfl
    have hc := hr.string (P := Try.prog) 22 9 5 Try.underlying22 Try.underlying5 Try.underlying9
    refine ⟨Free.want_none rfl, ?_⟩
    clear hp
    go_simp
    rfl
  refine Free.Seq.val ?_ (fun _ => Below.refl _ _) (fun a w1 hI hp => ?_) ?_
  rotate_left
  · have e0 := hp.slotV 0 (by kernel_rfl) rfl; simp at e0
    refine ⟨Free.want_none rfl, ?_⟩
    clear hp
    go_simp
    rfl
  refine Free.Seq.call (T := fun v w' => ∃ A' c', v = .slice A' N c' ∧ Rd w' A' N c' sp) (by rintro v w1 w2 ⟨A', c', rfl, hr⟩ hg; exact ⟨_, _, rfl, hr.below hg⟩) (fun a w1 hI hp => ?_) ?_
  · have e14 := hp.backV 3 0 rfl rfl rfl rfl rfl
    refine ⟨Free.want_none rfl, 13, #[.slice A n c], ?_, ?_⟩
    · clear hp
      go_simp
    · refine (HP.out _ (hp0.below hI)).mono ?_
      rintro e w' ⟨A', c', rfl, hown, hb⟩
      exact ⟨_, rfl, ⟨_, _, rfl, hown.rd HPL.out (by omega)⟩, hb, hI.trans (hb.mono hI.size)⟩
  refine Free.Seq.val ?_ (fun _ => Below.refl _ _) (fun a w1 hI hp => ?_) ?_
  rotate_left
  · skip
    obtain ⟨A', c', e15, hr⟩ := hp.back 4 0 rfl rfl rfl rfl rfl
    have hc := hr.string (P := Try.prog) 22 9 5 Try.underlying22 Try.underlying5 Try.underlying9
    refine ⟨Free.want_none rfl, ?_⟩
    clear hp
    go_simp
    rfl
  refine Free.Seq.val ?_ (fun _ => Below.refl _ _) (fun a w1 hI hp => ?_) ?_
  rotate_left
  · have e1 := hp.slotV 1 (by kernel_rfl) rfl; simp at e1
    refine ⟨Free.want_none rfl, ?_⟩
    clear hp
    go_simp
    rfl
  refine Free.Seq.call (T := fun v w' => ∃ A' c', v = .slice A' M c' ∧ Rd w' A' M c' sq) (by rintro v w1 w2 ⟨A', c', rfl, hr⟩ hg; exact ⟨_, _, rfl, hr.below hg⟩) (fun a w1 hI hp => ?_) ?_
  · have e17 := hp.backV 6 0 rfl rfl rfl rfl rfl
    refine ⟨Free.want_none rfl, 13, #[.slice D m d], ?_, ?_⟩
    · clear hp
      go_simp
    · refine (HQ.out _ (hq0.below hI)).mono ?_
      rintro e w' ⟨A', c', rfl, hown, hb⟩
      exact ⟨_, rfl, ⟨_, _, rfl, hown.rd HQL.out (by omega)⟩, hb, hI.trans (hb.mono hI.size)⟩
  refine Free.Seq.val ?_ (fun _ => Below.refl _ _) (fun a w1 hI hp => ?_) ?_
  rotate_left
  · skip
    obtain ⟨A', c', e18, hr⟩ := hp.back 7 0 rfl rfl rfl rfl rfl
    have hc := hr.string (P := Try.prog) 22 9 5 Try.underlying22 Try.underlying5 Try.underlying9
    refine ⟨Free.want_none rfl, ?_⟩
    clear hp
    go_simp
    rfl
  refine Free.Seq.val ?_ (fun _ => Below.refl _ _) (fun a w1 hI hp => ?_) ?_
  rotate_left
  · have e16 := hp.backV 5 3 rfl rfl rfl rfl rfl; have e19 := hp.backV 8 0 rfl rfl rfl rfl rfl
    have ha := add_strings (P := Try.prog) w1 sp sq (by have := HPL.out; have := HQL.out; omega)
    refine ⟨Free.want_none rfl, ?_⟩
    clear hp
    go_simp
    rfl
  refine Free.Seq.val ?_ (fun _ => Below.refl _ _) (fun a w1 hI hp => ?_) ?_
  rotate_left
  · have e13 := hp.backV 2 7 rfl rfl rfl rfl rfl; have e20 := hp.backV 9 0 rfl rfl rfl rfl rfl
    refine ⟨Free.want_none rfl, ?_⟩
    clear hp
    go_simp
    rfl
  refine Free.Seq.val ?_ (fun _ => Below.refl _ _) (fun a w1 hI hp => ?_) ?_
  rotate_left
  · have e21 := hp.backV 10 0 rfl rfl rfl rfl rfl
    refine ⟨Free.want_none rfl, ?_⟩
    clear hp
    go_simp
    rfl
  refine Free.Seq.val ?_ (fun _ => Below.refl _ _) (fun a w1 hI hp => ?_) ?_
  rotate_left
  · have e22 := hp.backV 11 0 rfl rfl rfl rfl rfl; have e5 := hp.slotV 5 (by kernel_rfl) rfl; simp at e5
    refine ⟨hp.want rfl rfl rfl e22, ?_⟩
    clear hp
    go_simp
    rfl
  refine Free.Seq.call (T := Free.eqF (.int .i64 ((N + M : Nat) : Int))) (fun _ _ _ h _ => h) (fun a w1 hI hp => ?_) ?_
  · have e22 := hp.backV 11 1 rfl rfl rfl rfl rfl; have e23 := hp.backV 12 0 rfl rfl rfl rfl rfl
    refine ⟨hp.want rfl rfl rfl e22, 16, #[.slice A1 (n + m) c1], ?_, ?_⟩
    · clear hp
      go_simp
    · refine (HBZ.out _ _ _ (hbo.below hI)).mono ?_
      rintro e w' ⟨rfl, rfl⟩
      exact ⟨_, rfl, rfl, Below.refl _ _, hI⟩
  refine Free.Seq.val ?_ (fun _ => Below.refl _ _) (fun a w1 hI hp => ?_) ?_
  rotate_left
  · have e22 := hp.backV 11 2 rfl rfl rfl rfl rfl; have e0 := hp.slotV 0 (by kernel_rfl) rfl; simp at e0
    refine ⟨hp.want rfl rfl rfl e22, ?_⟩
    clear hp
    go_simp
    rfl
  refine Free.Seq.call (T := Free.eqF (.int .i64 (N : Int))) (fun _ _ _ h _ => h) (fun a w1 hI hp => ?_) ?_
  · have e22 := hp.backV 11 3 rfl rfl rfl rfl rfl; have e25 := hp.backV 14 0 rfl rfl rfl rfl rfl
    refine ⟨hp.want rfl rfl rfl e22, 16, #[.slice A n c], ?_, ?_⟩
    · clear hp
      go_simp
    · refine (HPZ.out _ (hp0.below hI)).mono ?_
      rintro e w' ⟨rfl, rfl⟩
      exact ⟨_, rfl, rfl, Below.refl _ _, hI⟩
  refine Free.Seq.val ?_ (fun _ => Below.refl _ _) (fun a w1 hI hp => ?_) ?_
  rotate_left
  · have e22 := hp.backV 11 4 rfl rfl rfl rfl rfl; have e1 := hp.slotV 1 (by kernel_rfl) rfl; simp at e1
    refine ⟨hp.want rfl rfl rfl e22, ?_⟩
    clear hp
    go_simp
    rfl
  refine Free.Seq.call (T := Free.eqF (.int .i64 (M : Int))) (fun _ _ _ h _ => h) (fun a w1 hI hp => ?_) ?_
  · have e22 := hp.backV 11 5 rfl rfl rfl rfl rfl; have e27 := hp.backV 16 0 rfl rfl rfl rfl rfl
    refine ⟨hp.want rfl rfl rfl e22, 16, #[.slice D m d], ?_, ?_⟩
    · clear hp
      go_simp
    · refine (HQZ.out _ (hq0.below hI)).mono ?_
      rintro e w' ⟨rfl, rfl⟩
      exact ⟨_, rfl, rfl, Below.refl _ _, hI⟩
  refine Free.Seq.val ?_ (fun _ => Below.refl _ _) (fun a w1 hI hp => ?_) ?_
  rotate_left
  · have e22 := hp.backV 11 6 rfl rfl rfl rfl rfl; have e26 := hp.backV 15 2 rfl rfl rfl rfl rfl; have e28 := hp.backV 17 0 rfl rfl rfl rfl rfl
    refine ⟨hp.want rfl rfl rfl e22, ?_⟩
    clear hp
    go_simp
    rfl
  refine Free.Seq.val ?_ (fun _ => Below.refl _ _) (fun a w1 hI hp => ?_) ?_
  rotate_left
  · have e22 := hp.backV 11 7 rfl rfl rfl rfl rfl; have e24 := hp.backV 13 5 rfl rfl rfl rfl rfl; have e29 := hp.backV 18 0 rfl rfl rfl rfl rfl
    refine ⟨hp.want rfl rfl rfl e22, ?_⟩
    clear hp
    go_simp
    rfl
  refine Free.Seq.val ?_ (fun _ => Below.refl _ _) (fun a w1 hI hp => ?_) ?_
  rotate_left
  · have e22 := hp.backV 11 8 rfl rfl rfl rfl rfl; have e30 := hp.backV 19 0 rfl rfl rfl rfl rfl
    refine ⟨Free.want_none rfl, ?_⟩
    clear hp
    go_simp
    rfl
  refine Free.Seq.val ?_ (fun _ => Below.refl _ _) (fun a w1 hI hp => ?_) ?_
  rotate_left
  · have e31 := hp.backV 20 0 rfl rfl rfl rfl rfl
    refine ⟨Free.want_none rfl, ?_⟩
    clear hp
    go_simp
    rfl
  refine Free.Seq.call (T := Free.eqF (.bool true)) (fun _ _ _ h _ => h) (fun a w1 hI hp => ?_) ?_
  · have e32 := hp.backV 21 0 rfl rfl rfl rfl rfl
    refine ⟨hp.want rfl rfl rfl e32, 12, #[], ?_, ?_⟩
    · clear hp
      go_simp
    · refine (awake_any _).mono ?_
      rintro e w' ⟨rfl, hb⟩
      exact ⟨_, rfl, rfl, hb, hI.trans (hb.mono hI.size)⟩
  refine Free.Seq.val ?_ (fun _ => Below.refl _ _) (fun a w1 hI hp => ?_) ?_
  rotate_left
  · have e32 := hp.backV 21 1 rfl rfl rfl rfl rfl; have e33 := hp.backV 22 0 rfl rfl rfl rfl rfl
    refine ⟨Free.want_none rfl, ?_⟩
    clear hp
    go_simp
    rfl
  refine Free.Seq.val ?_ (fun _ => Below.refl _ _) (fun a w1 hI hp => ?_) ?_
  rotate_left
  · have e34 := hp.backV 23 0 rfl rfl rfl rfl rfl
    refine ⟨Free.want_none rfl, ?_⟩
    clear hp
    go_simp
    rfl
  refine Free.Seq.done (by simp) (fun wz hIz => ?_)
  simp only [List.reverse_cons, List.reverse_nil, List.nil_append, List.cons_append, Free.All, Free.eqF, forall_eq]
  rintro x ⟨A7, c7, rfl, _⟩ y ⟨A8, c8, rfl, _⟩ z ⟨A9, c9, rfl, _⟩
  simp only [Free.putL, Act.put, List.setIfInBounds_toArray, List.set_cons_zero, List.set_cons_succ]
  go_wp2
  go_ret
  exact ⟨rfl, hb2.trans (hIz.mono hb2.size)⟩
end Go.Proofs.Ytiffbmnenbnglaa
