/-
  HdlcFinds: a frame that is fed is told as the last one.
-/
import Derived.Test.YtpfilomckijmkaaHdlcLaws
import Derived.Test.YtpfilomckijmkaaHdlcFeeds
import Derived.Test.YtpfilomckijmkaaHdlcEncodes
namespace Go.Proofs.Ytpfilomckijmkaa
open Go.RowKit

set_option maxHeartbeats 2000000 in
/-- HdlcFinds -/
theorem finds_law (A0 : Option Addr) (n0 c0 : Nat) (l0 : List UInt8) (A1 : Option Addr) (n1 c1 : Nat) (l1 : List UInt8) (w : World) (hR0 : Rd w A0 n0 c0 l0) (hR1 : Rd w A1 n1 c1 l1) (hn : n0 ≤ 1000000000) :
    Calls Try.prog 9 #[.slice A0 n0 c0, .slice A1 n1 c1] w fun e w' => e = .returned (.bool true) ∧ Below w.heap.size w w' := by
  have HR0 := Lib.hid hR0
  have HR1 := Lib.hid hR1
  have hl1 := hR1.len
  have HL1 := Lib.hid hl1
  have hex : n1 = 0 ∨ 128 < n1 ∨ (1 ≤ n1 ∧ n1 ≤ 128) := by omega
  clear hR0 hR1
  rcases hex with h0 | h0 | ⟨h1, h2⟩
  · have e1 : Hdl.encE l1 = 2 := by rw [Hdl.encE, hl1, if_pos h0]
    have E1 := Lib.hid e1
    subst h0
    clear e1 hl1
    go_enter Try.func9, Try.ntmps9
    go_wp2_with fail
    refine (dnew_any w).mono ?_
    rintro e w1 ⟨rfl, _, hb⟩
    go_wp2_with fail
    refine (encode_any A1 0 c1 l1 _ (HR1.out.below hb)).mono ?_
    rintro e w2 ⟨A2, c2, rfl, _, _, hb2⟩
    rw [E1.out]
    go_wp2_with fail
    refine (awake_any _).mono ?_
    rintro e w3 ⟨rfl, hb3⟩
    go_wp2
    go_ret
    exact ⟨rfl, (hb.trans (hb2.mono hb.size)).trans (hb3.mono (Nat.le_trans hb.size hb2.size))⟩
  · have e1 : Hdl.encE l1 = 3 := by rw [Hdl.encE, hl1, if_neg (by omega), if_pos h0]
    have E1 := Lib.hid e1
    have h1 : (128 : Int) < (n1 : Int) := by omega
    have h2 : ((n1 : Int) == 0) = false := by simp; omega
    clear e1 hl1 h0
    go_enter Try.func9, Try.ntmps9
    go_wp2_with fail
    refine (dnew_any w).mono ?_
    rintro e w1 ⟨rfl, _, hb⟩
    go_wp2_with fail
    refine (encode_any A1 n1 c1 l1 _ (HR1.out.below hb)).mono ?_
    rintro e w2 ⟨A2, c2, rfl, _, _, hb2⟩
    rw [E1.out]
    go_wp2_with fail
    refine (awake_any _).mono ?_
    rintro e w3 ⟨rfl, hb3⟩
    go_wp2
    go_ret
    exact ⟨rfl, (hb.trans (hb2.mono hb.size)).trans (hb3.mono (Nat.le_trans hb.size hb2.size))⟩
  · have e1 : Hdl.encE l1 = 0 := by rw [Hdl.encE, hl1, if_neg (by omega), if_neg (by omega)]
    have e2 : Hdl.encB l1 = Hdl.frame l1 := by rw [Hdl.encB, hl1, if_neg (by omega)]
    have hfl : (Hdl.frame l1).length ≤ 262 := by have := Hdl.stuffed_len l1 (by omega); simp [Hdl.frame]; omega
    have E1 := Lib.hid e1
    have E2 := Lib.hid e2
    have HFL := Lib.hid hfl
    clear e1 e2 hl1 hfl
    have kf : ∀ (w : World) (x0 x1 x2 x3 x4 : Value), (Instr.field 27 (.agg #[x0, x1, x2, x3, x4]) 0).run Try.prog w = .ok x0 w := fun w x0 x1 x2 x3 x4 => by kernel_rfl
    go_enter Try.func9, Try.ntmps9
    go_wp2_with fail
    refine (dnew_any w).mono ?_
    rintro e w1 ⟨rfl, hd, hb⟩
    have HD := Lib.hid hd
    have HB := Lib.hid hb
    clear hd
    go_wp2_with fail
    refine (encode_any A1 n1 c1 l1 _ (HR1.out.below hb)).mono ?_
    rintro e w2 ⟨A2, c2, rfl, hr2, hA2, hb2⟩
    rw [E1.out]
    rw [E2.out] at hr2 ⊢
    obtain ⟨N, hN⟩ : ∃ N, N = (Hdl.frame l1).length := ⟨_, rfl⟩
    rw [← hN] at hr2 HFL ⊢
    have HR2 := Lib.hid hr2
    have HA2 := Lib.hid hA2
    have HB2 := Lib.hid hb2
    have HN := Lib.hid hN
    have hbs := hb.size
    have hbs2 := hb2.size
    have hlt1 := HD.out.lt
    clear hb hr2 hA2 hb2 hN
    go_wp2_with fail
    refine (dfeed_any (d := Hdl.d0) w2 A0 n0 c0 l0 ((HD.out.below HB2.out).recut (Nat.le_refl _)) ((HR0.out.below HB.out).below HB2.out) (fun h0 b off e h => ?_) Hdl.ok0 0 Hdl.le0 (by omega) (by simp; omega)).mono ?_
    · obtain ⟨b2, off2, e2, hb2, _⟩ := HR0.out.at_ h0
      rw [e] at e2
      injection e2 with e2
      injection e2 with e2
      rcases h with h | h | h
      · omega
      · simp [Value.ownBlock] at h
      · simp [Value.ownBlock] at h
    rintro e w3 ⟨I', A3, c3, xs3, rfl, hd3, _, _, hk3, hi3, _⟩
    obtain ⟨d1, hd1⟩ : ∃ d1, d1 = (Hdl.feed Hdl.d0 l0).1 := ⟨_, rfl⟩
    have hok1 : Hdl.Ok d1 := by rw [hd1]; exact Hdl.ok_feed l0 Hdl.ok0
    have hle1 : d1.met.Le n0 := by rw [hd1]; have := Hdl.le_feed l0 Hdl.le0; rw [HR0.out.len] at this; simpa using this
    rw [← hd1] at hd3
    have hrd3 : Rd w3 A2 N c2 (Hdl.frame l1) := HR2.out.keep hk3.size fun b off e hb => hk3.block b hb fun h => by
      have h9 := HA2.out b off e
      rcases h with h | h | h
      · omega
      · simp [Value.ownBlock] at h
      · simp [Value.ownBlock] at h
    have hb3 : Below w.heap.size w w3 := (HB.out.trans (HB2.out.mono hbs)).trans (hk3.below (by omega) (fun i hi h => by
      rcases h with h | h | h
      · omega
      · simp [Value.ownBlock] at h
      · simp [Value.ownBlock] at h))
    have hsz3 := hk3.size
    have hI3 : ∀ k, I'.ownBlock = some k → w2.heap.size ≤ k := fun k e => by
      rcases hi3 k e with h | h
      · simp [Value.ownBlock] at h
      · exact h
    have HD3 := Lib.hid hd3
    have HOK1 := Lib.hid hok1
    have HLE1 := Lib.hid hle1
    have HRD3 := Lib.hid hrd3
    have HB3 := Lib.hid hb3
    have HI3 := Lib.hid hI3
    clear hd3 hok1 hle1 hrd3 hb3 hI3 hk3 hi3 hd1
    go_wp2_with fail
    refine (dstats_any _ HD3.out).mono ?_
    rintro e w4 ⟨rfl, hb4⟩
    simp only [mets]
    have hs4 := hb4.size
    have HB4 := Lib.hid hb4
    clear hb4
    have hfr := Hdl.feed_frame d1 l1 (by rw [HL1.out]; omega) (by rw [HL1.out]; omega)
    have hgd := Hdl.good_feed (Hdl.frame l1) d1
    have hst := Hdl.told_step d1 0x7e
    obtain ⟨d2, hd2⟩ : ∃ d2, d2 = (Hdl.feed d1 (Hdl.frame l1)).1 := ⟨_, rfl⟩
    have hd2h : d2.hunts = false := by rw [hd2, hfr]
    have hd2i : d2.inn = [] := by rw [hd2, hfr]
    have hls : (Hdl.feed d1 (Hdl.frame l1)).2 = (Hdl.step d1 0x7e).2 ++ [l1] := by rw [hfr]
    rw [← hd2, hls] at hgd
    have hfd := dfeed_any w4 (xs := []) (told := []) A2 N c2 (Hdl.frame l1) ((HD3.out.below HB4.out).recut (Nat.le_refl w4.heap.size)) (HRD3.out.below HB4.out) (fun h0 b off e h => by
      have h9 := HA2.out b off e
      have h8 := HRD3.out.at_ h0
      rcases h with h | h | h
      · omega
      · have := HI3.out b h
        obtain ⟨b2, off2, e2, hb2, _⟩ := HR2.out.at_ h0
        rw [e] at e2
        injection e2 with e2
        injection e2 with e2
        omega
      · simp [Value.ownBlock] at h) HOK1.out n0 HLE1.out (by have := HFL.out; omega) (by have := HFL.out; simp; omega)
    rw [← hd2, hls, List.nil_append] at hfd
    have HFD := Lib.hid hfd
    have HD2H := Lib.hid hd2h
    have HD2I := Lib.hid hd2i
    obtain ⟨G, hG⟩ : ∃ G, G = d1.met.good := ⟨_, rfl⟩
    have hGb : G ≤ 1000000000 := by have := HLE1.out.1; omega
    rw [← hG] at hgd ⊢
    have hcase : (∃ x, (Hdl.step d1 0x7e).2 = [x]) ∨ (Hdl.step d1 0x7e).2 = [] := by
      match h : (Hdl.step d1 0x7e).2 with
      | [] => exact .inr rfl
      | [x] => exact .inl ⟨x, rfl⟩
      | x :: y :: l => rw [h] at hst; simp at hst
    clear hfr hls hd2 hd2h hd2i hfd hst hG
    have HCASE := Lib.hid hcase
    have HGD := Lib.hid hgd
    clear hcase hgd
    go_wp2_with fail
    refine HFD.out.mono ?_
    rintro e w5 ⟨I5, A5, c5, xs5, rfl, hd5, hs5, ht5, hk5, _, _⟩
    have hb5 : Below w.heap.size w w5 := (HB3.out.trans (HB4.out.mono (by omega))).trans (hk5.below (by omega) (fun i hi h => by
      rcases h with h | h | h
      · omega
      · have := HI3.out i h
        omega
      · simp [Value.ownBlock] at h))
    have hs5' := hk5.size
    have HB5 := Lib.hid hb5
    have HD5 := Lib.hid hd5
    clear hk5 hb5 hd5
    rcases HCASE.out with ⟨x, hx⟩ | hx
    · skip
      have hgd := HGD.out
      rw [hx] at hs5 ht5 hgd ⊢
      have hbt : ∀ l ∈ ([x] ++ [l1]), l.length ≤ 281474976710656 := by
        intro l hl
        have := Hdl.step_len d1 0x7e
        simp at hl
        rcases hl with rfl | rfl
        · have := this l (by rw [hx]; simp)
          omega
        · rw [HL1.out]; omega
      obtain ⟨b, off, A6, c6, rfl, hbl, hc6, hr6⟩ := told_one (n := 2) hs5 ht5 hbt 1 l1 rfl
      have hlen2 : ([x] ++ [l1]).length = 2 := rfl
      rw [hlen2] at hgd ⊢
      rw [HL1.out] at hc6 hr6
      have HR6 := Lib.hid hr6
      have HGD2 := Lib.hid hgd
      have HX := Lib.hid hx
      clear hgd hlen2 hs5 ht5 hr6 hbt hx
      go_wp2_with fail
      refine (dstats_any _ HD5.out).mono ?_
      rintro e w6 ⟨rfl, hb6⟩
      simp only [mets]
      rw [HGD2.out]
      have hc7 := (hb6.cell (p := ⟨b, off + 1, none⟩) hbl).trans hc6
      have HR7 := Lib.hid (HR6.out.below hb6)
      have HD6 := Lib.hid (HD5.out.below hb6)
      have HB6 := Lib.hid (HB5.out.trans (hb6.mono (by have := HB5.out.size; omega)))
      have hbl6 : b < w6.heap.size := Nat.lt_of_lt_of_le hbl hb6.size
      have hsub : (((G + 2 : Nat) : Int) - (G : Int)) = 2 := by omega
      clear hc6 hb6
      go_wp2_with fail
      rw [show ((G : Int) + 2 - (G : Int)) = 2 by omega]
      clear hsub
      refine Free.wp_seq (I := fun w' => Below w6.heap.size w6 w') (Gr := fun w1 w2 => Below w1.heap.size w1 w2) (by kernel_rfl) (by kernel_rfl) (Below.refl _ _).drew ?_
      refine Free.Seq.val ?_ (fun _ => Below.refl _ _) (fun a w1 hI hp => ?_) ?_
      rotate_left
      · have e9 := hp.slotV 9 (by kernel_rfl) rfl; simp at e9
        refine ⟨Free.want_none rfl, ?_⟩
        clear hp
        go_simp
        rfl
      refine Free.Seq.val ?_ (fun _ => Below.refl _ _) (fun a w1 hI hp => ?_) ?_
      rotate_left
      · have e52 := hp.backV 0 0 rfl rfl rfl rfl rfl
        refine ⟨Free.want_none rfl, ?_⟩
        clear hp
        go_simp
        rfl
      refine Free.Seq.val ?_ (fun _ => Below.refl _ _) (fun a w1 hI hp => ?_) ?_
      rotate_left
      · have e10 := hp.slotV 10 (by kernel_rfl) rfl; simp at e10
        refine ⟨Free.want_none rfl, ?_⟩
        clear hp
        go_simp
        rfl
      refine Free.Seq.val ?_ (fun _ => Below.refl _ _) (fun a w1 hI hp => ?_) ?_
      rotate_left
      · have e53 := hp.backV 1 1 rfl rfl rfl rfl rfl; have e54 := hp.backV 2 0 rfl rfl rfl rfl rfl
        refine ⟨Free.want_none rfl, ?_⟩
        clear hp
        go_simp
        rfl
      refine Free.Seq.val ?_ (fun _ => Below.refl _ _) (fun a w1 hI hp => ?_) ?_
      rotate_left
      · have e55 := hp.backV 3 0 rfl rfl rfl rfl rfl
        refine ⟨Free.want_none rfl, ?_⟩
        clear hp
        go_simp
        rfl
      refine Free.Seq.val ?_ (fun _ => Below.refl _ _) (fun a w1 hI hp => ?_) ?_
      rotate_left
      · have e56 := hp.backV 4 0 rfl rfl rfl rfl rfl; have e10 := hp.slotV 10 (by kernel_rfl) rfl; simp at e10
        refine ⟨hp.want rfl rfl rfl e56, ?_⟩
        clear hp
        go_simp
        rfl
      refine Free.Seq.val ?_ (fun _ => Below.refl _ _) (fun a w1 hI hp => ?_) ?_
      rotate_left
      · have e56 := hp.backV 4 1 rfl rfl rfl rfl rfl; have e57 := hp.backV 5 0 rfl rfl rfl rfl rfl
        refine ⟨hp.want rfl rfl rfl e56, ?_⟩
        clear hp
        go_simp
        rfl
      refine Free.Seq.val ?_ (fun _ => Below.refl _ _) (fun a w1 hI hp => ?_) ?_
      rotate_left
      · have e56 := hp.backV 4 2 rfl rfl rfl rfl rfl; have e58 := hp.backV 6 0 rfl rfl rfl rfl rfl
        refine ⟨Free.want_none rfl, ?_⟩
        clear hp
        go_simp
        rfl
      refine Free.Seq.val ?_ (fun _ => Below.refl _ _) (fun a w1 hI hp => ?_) ?_
      rotate_left
      · have e59 := hp.backV 7 0 rfl rfl rfl rfl rfl
        refine ⟨Free.want_none rfl, ?_⟩
        clear hp
        go_simp
        rfl
      refine Free.Seq.val ?_ (fun _ => Below.refl _ _) (fun a w1 hI hp => ?_) ?_
      rotate_left
      · have e60 := hp.backV 8 0 rfl rfl rfl rfl rfl; have e10 := hp.slotV 10 (by kernel_rfl) rfl; simp at e10
        refine ⟨hp.want rfl rfl rfl e60, ?_⟩
        clear hp
        go_simp
        rfl
      refine Free.Seq.val ?_ (fun _ => Below.refl _ _) (fun a w1 hI hp => ?_) ?_
      rotate_left
      · have e60 := hp.backV 8 1 rfl rfl rfl rfl rfl; have e61 := hp.backV 9 0 rfl rfl rfl rfl rfl
        refine ⟨hp.want rfl rfl rfl e60, ?_⟩
        clear hp
        go_simp
        rfl
      refine Free.Seq.val ?_ (fun _ => Below.refl _ _) (fun a w1 hI hp => ?_) ?_
      rotate_left
      · have e60 := hp.backV 8 2 rfl rfl rfl rfl rfl; have e62 := hp.backV 10 0 rfl rfl rfl rfl rfl
        refine ⟨Free.want_none rfl, ?_⟩
        clear hp
        go_simp
        rfl
      refine Free.Seq.val ?_ (fun _ => Below.refl _ _) (fun a w1 hI hp => ?_) ?_
      rotate_left
      · have e63 := hp.backV 11 0 rfl rfl rfl rfl rfl
        refine ⟨Free.want_none rfl, ?_⟩
        clear hp
        go_simp
        rfl
      refine Free.Seq.val ?_ (fun _ => Below.refl _ _) (fun a w1 hI hp => ?_) ?_
      rotate_left
      · have e64 := hp.backV 12 0 rfl rfl rfl rfl rfl; have e9 := hp.slotV 9 (by kernel_rfl) rfl; simp at e9
        refine ⟨hp.want rfl rfl rfl e64, ?_⟩
        clear hp
        go_simp
        rfl
      refine Free.Seq.val ?_ (fun _ => Below.refl _ _) (fun a w1 hI hp => ?_) ?_
      rotate_left
      · have e64 := hp.backV 12 1 rfl rfl rfl rfl rfl; have e10 := hp.slotV 10 (by kernel_rfl) rfl; simp at e10
        refine ⟨hp.want rfl rfl rfl e64, ?_⟩
        clear hp
        go_simp
        rfl
      refine Free.Seq.val ?_ (fun _ => Below.refl _ _) (fun a w1 hI hp => ?_) ?_
      rotate_left
      · have e64 := hp.backV 12 2 rfl rfl rfl rfl rfl; have e66 := hp.backV 14 0 rfl rfl rfl rfl rfl
        have gw : IntKind.i64.wrap 1 = 1 := by decide
        refine ⟨hp.want rfl rfl rfl e64, ?_⟩
        clear hp
        go_simp
        rfl
      refine Free.Seq.val ?_ (fun _ => Below.refl _ _) (fun a w1 hI hp => ?_) ?_
      rotate_left
      · have e64 := hp.backV 12 3 rfl rfl rfl rfl rfl; have e65 := hp.backV 13 2 rfl rfl rfl rfl rfl; have e67 := hp.backV 15 0 rfl rfl rfl rfl rfl
        refine ⟨hp.want rfl rfl rfl e64, ?_⟩
        clear hp
        go_simp
        rfl
      refine Free.Seq.val ?_ (fun _ => Below.refl _ _) (fun a w1 hI hp => ?_) ?_
      rotate_left
      · have e64 := hp.backV 12 4 rfl rfl rfl rfl rfl; have e68 := hp.backV 16 0 rfl rfl rfl rfl rfl
        have e := (hI.cell (p := ⟨b, off + 1, none⟩) hbl6).trans hc7
        refine ⟨hp.want rfl rfl rfl e64, ?_⟩
        clear hp
        go_simp
        rfl
      refine Free.Seq.val ?_ (fun _ => Below.refl _ _) (fun a w1 hI hp => ?_) ?_
      rotate_left
      · have e64 := hp.backV 12 5 rfl rfl rfl rfl rfl; have e69 := hp.backV 17 0 rfl rfl rfl rfl rfl
        have hc := (HR7.out.below hI).string (P := Try.prog) 25 9 5 Try.underlying25 Try.underlying5 Try.underlying9
        refine ⟨hp.want rfl rfl rfl e64, ?_⟩
        clear hp
        go_simp
        rfl
      refine Free.Seq.val ?_ (fun _ => Below.refl _ _) (fun a w1 hI hp => ?_) ?_
      rotate_left
      · have e64 := hp.backV 12 6 rfl rfl rfl rfl rfl; have e1 := hp.slotV 1 (by kernel_rfl) rfl; simp at e1
        refine ⟨hp.want rfl rfl rfl e64, ?_⟩
        clear hp
        go_simp
        rfl
      refine Free.Seq.val ?_ (fun _ => Below.refl _ _) (fun a w1 hI hp => ?_) ?_
      rotate_left
      · have e64 := hp.backV 12 7 rfl rfl rfl rfl rfl; have e71 := hp.backV 19 0 rfl rfl rfl rfl rfl
        have hc := ((HR1.out.below HB6.out).below hI).string (P := Try.prog) 25 9 5 Try.underlying25 Try.underlying5 Try.underlying9
        refine ⟨hp.want rfl rfl rfl e64, ?_⟩
        clear hp
        go_simp
        rfl
      refine Free.Seq.val ?_ (fun _ => Below.refl _ _) (fun a w1 hI hp => ?_) ?_
      rotate_left
      · have e64 := hp.backV 12 8 rfl rfl rfl rfl rfl; have e70 := hp.backV 18 2 rfl rfl rfl rfl rfl; have e72 := hp.backV 20 0 rfl rfl rfl rfl rfl
        refine ⟨hp.want rfl rfl rfl e64, ?_⟩
        clear hp
        go_simp
        rfl
      refine Free.Seq.val ?_ (fun _ => Below.refl _ _) (fun a w1 hI hp => ?_) ?_
      rotate_left
      · have e64 := hp.backV 12 9 rfl rfl rfl rfl rfl; have e73 := hp.backV 21 0 rfl rfl rfl rfl rfl
        refine ⟨Free.want_none rfl, ?_⟩
        clear hp
        go_simp
        rfl
      refine Free.Seq.val ?_ (fun _ => Below.refl _ _) (fun a w1 hI hp => ?_) ?_
      rotate_left
      · have e74 := hp.backV 22 0 rfl rfl rfl rfl rfl
        refine ⟨Free.want_none rfl, ?_⟩
        clear hp
        go_simp
        rfl
      refine Free.Seq.val ?_ (fun _ => Below.refl _ _) (fun a w1 hI hp => ?_) ?_
      rotate_left
      · have e75 := hp.backV 23 0 rfl rfl rfl rfl rfl; have e5 := hp.slotV 5 (by kernel_rfl) rfl; simp at e5
        refine ⟨hp.want rfl rfl rfl e75, ?_⟩
        clear hp
        go_simp
        rfl
      refine Free.Seq.call (T := Free.eqF (.int .i64 0)) (fun _ _ _ h _ => h) (fun a w1 hI hp => ?_) ?_
      · have e75 := hp.backV 23 1 rfl rfl rfl rfl rfl; have e76 := hp.backV 24 0 rfl rfl rfl rfl rfl
        refine ⟨hp.want rfl rfl rfl e75, 16, #[.pointer (some ⟨w.heap.size, 0, none⟩)], ?_, ?_⟩
        · clear hp
          go_simp
        · refine (dinside_any _ (HD6.out.below hI)).mono ?_
          rintro e w' ⟨rfl, rfl⟩
          exact ⟨_, rfl, by rw [HD2H.out, HD2I.out]; rfl, Below.refl _ _, hI⟩
      refine Free.Seq.val ?_ (fun _ => Below.refl _ _) (fun a w1 hI hp => ?_) ?_
      rotate_left
      · have e75 := hp.backV 23 2 rfl rfl rfl rfl rfl; have e77 := hp.backV 25 0 rfl rfl rfl rfl rfl
        refine ⟨hp.want rfl rfl rfl e75, ?_⟩
        clear hp
        go_simp
        rfl
      refine Free.Seq.val ?_ (fun _ => Below.refl _ _) (fun a w1 hI hp => ?_) ?_
      rotate_left
      · have e75 := hp.backV 23 3 rfl rfl rfl rfl rfl; have e78 := hp.backV 26 0 rfl rfl rfl rfl rfl
        refine ⟨Free.want_none rfl, ?_⟩
        clear hp
        go_simp
        rfl
      refine Free.Seq.val ?_ (fun _ => Below.refl _ _) (fun a w1 hI hp => ?_) ?_
      rotate_left
      · have e79 := hp.backV 27 0 rfl rfl rfl rfl rfl
        refine ⟨Free.want_none rfl, ?_⟩
        clear hp
        go_simp
        rfl
      refine Free.Seq.call (T := Free.eqF (.bool true)) (fun _ _ _ h _ => h) (fun a w1 hI hp => ?_) ?_
      · have e80 := hp.backV 28 0 rfl rfl rfl rfl rfl
        refine ⟨hp.want rfl rfl rfl e80, 18, #[], ?_, ?_⟩
        · clear hp
          go_simp
        · refine (awake_any _).mono ?_
          rintro e w' ⟨rfl, hb⟩
          exact ⟨_, rfl, rfl, hb, hI.trans (hb.mono hI.size)⟩
      refine Free.Seq.val ?_ (fun _ => Below.refl _ _) (fun a w1 hI hp => ?_) ?_
      rotate_left
      · have e80 := hp.backV 28 1 rfl rfl rfl rfl rfl; have e81 := hp.backV 29 0 rfl rfl rfl rfl rfl
        refine ⟨Free.want_none rfl, ?_⟩
        clear hp
        go_simp
        rfl
      refine Free.Seq.val ?_ (fun _ => Below.refl _ _) (fun a w1 hI hp => ?_) ?_
      rotate_left
      · have e82 := hp.backV 30 0 rfl rfl rfl rfl rfl
        refine ⟨Free.want_none rfl, ?_⟩
        clear hp
        go_simp
        rfl
      refine Free.Seq.done (by simp) (fun wz hIz => ?_)
      simp only [List.reverse_cons, List.reverse_nil, List.nil_append, List.cons_append, Free.All, Free.eqF, forall_eq]
      have HIZ := Lib.hid hIz
      clear hIz
      simp only [Free.putL, Act.put, List.setIfInBounds_toArray, List.set_cons_zero, List.set_cons_succ]
      go_wp2
      go_ret
      exact ⟨rfl, HB6.out.trans (HIZ.out.mono HB6.out.size)⟩
    · skip
      have hgd := HGD.out
      rw [hx] at hs5 ht5 hgd ⊢
      have hbt : ∀ l ∈ ([] ++ [l1]), l.length ≤ 281474976710656 := by
        intro l hl
        have := Hdl.step_len d1 0x7e
        simp at hl
        rw [hl, HL1.out]; omega
      obtain ⟨b, off, A6, c6, rfl, hbl, hc6, hr6⟩ := told_one (n := 1) hs5 ht5 hbt 0 l1 rfl
      have hlen2 : ([] ++ [l1]).length = 1 := rfl
      rw [hlen2] at hgd ⊢
      rw [HL1.out] at hc6 hr6
      have HR6 := Lib.hid hr6
      have HGD2 := Lib.hid hgd
      have HX := Lib.hid hx
      clear hgd hlen2 hs5 ht5 hr6 hbt hx
      go_wp2_with fail
      refine (dstats_any _ HD5.out).mono ?_
      rintro e w6 ⟨rfl, hb6⟩
      simp only [mets]
      rw [HGD2.out]
      have hc7 := (hb6.cell (p := ⟨b, off + 0, none⟩) hbl).trans hc6
      have HR7 := Lib.hid (HR6.out.below hb6)
      have HD6 := Lib.hid (HD5.out.below hb6)
      have HB6 := Lib.hid (HB5.out.trans (hb6.mono (by have := HB5.out.size; omega)))
      have hbl6 : b < w6.heap.size := Nat.lt_of_lt_of_le hbl hb6.size
      have hsub : (((G + 1 : Nat) : Int) - (G : Int)) = 1 := by omega
      clear hc6 hb6
      go_wp2_with fail
      rw [show ((G : Int) + 1 - (G : Int)) = 1 by omega]
      rw [Nat.add_zero] at hc7
      clear hsub
      refine Free.wp_seq (I := fun w' => Below w6.heap.size w6 w') (Gr := fun w1 w2 => Below w1.heap.size w1 w2) (by kernel_rfl) (by kernel_rfl) (Below.refl _ _).drew ?_
      refine Free.Seq.val ?_ (fun _ => Below.refl _ _) (fun a w1 hI hp => ?_) ?_
      rotate_left
      · have e9 := hp.slotV 9 (by kernel_rfl) rfl; simp at e9
        refine ⟨Free.want_none rfl, ?_⟩
        clear hp
        go_simp
        rfl
      refine Free.Seq.val ?_ (fun _ => Below.refl _ _) (fun a w1 hI hp => ?_) ?_
      rotate_left
      · have e52 := hp.backV 0 0 rfl rfl rfl rfl rfl
        refine ⟨Free.want_none rfl, ?_⟩
        clear hp
        go_simp
        rfl
      refine Free.Seq.val ?_ (fun _ => Below.refl _ _) (fun a w1 hI hp => ?_) ?_
      rotate_left
      · have e10 := hp.slotV 10 (by kernel_rfl) rfl; simp at e10
        refine ⟨Free.want_none rfl, ?_⟩
        clear hp
        go_simp
        rfl
      refine Free.Seq.val ?_ (fun _ => Below.refl _ _) (fun a w1 hI hp => ?_) ?_
      rotate_left
      · have e53 := hp.backV 1 1 rfl rfl rfl rfl rfl; have e54 := hp.backV 2 0 rfl rfl rfl rfl rfl
        refine ⟨Free.want_none rfl, ?_⟩
        clear hp
        go_simp
        rfl
      refine Free.Seq.val ?_ (fun _ => Below.refl _ _) (fun a w1 hI hp => ?_) ?_
      rotate_left
      · have e55 := hp.backV 3 0 rfl rfl rfl rfl rfl
        refine ⟨Free.want_none rfl, ?_⟩
        clear hp
        go_simp
        rfl
      refine Free.Seq.val ?_ (fun _ => Below.refl _ _) (fun a w1 hI hp => ?_) ?_
      rotate_left
      · have e56 := hp.backV 4 0 rfl rfl rfl rfl rfl; have e10 := hp.slotV 10 (by kernel_rfl) rfl; simp at e10
        refine ⟨hp.want rfl rfl rfl e56, ?_⟩
        clear hp
        go_simp
        rfl
      refine Free.Seq.val ?_ (fun _ => Below.refl _ _) (fun a w1 hI hp => ?_) ?_
      rotate_left
      · have e56 := hp.backV 4 1 rfl rfl rfl rfl rfl; have e57 := hp.backV 5 0 rfl rfl rfl rfl rfl
        refine ⟨hp.want rfl rfl rfl e56, ?_⟩
        clear hp
        go_simp
        rfl
      refine Free.Seq.val ?_ (fun _ => Below.refl _ _) (fun a w1 hI hp => ?_) ?_
      rotate_left
      · have e56 := hp.backV 4 2 rfl rfl rfl rfl rfl; have e58 := hp.backV 6 0 rfl rfl rfl rfl rfl
        refine ⟨Free.want_none rfl, ?_⟩
        clear hp
        go_simp
        rfl
      refine Free.Seq.val ?_ (fun _ => Below.refl _ _) (fun a w1 hI hp => ?_) ?_
      rotate_left
      · have e59 := hp.backV 7 0 rfl rfl rfl rfl rfl
        refine ⟨Free.want_none rfl, ?_⟩
        clear hp
        go_simp
        rfl
      refine Free.Seq.val ?_ (fun _ => Below.refl _ _) (fun a w1 hI hp => ?_) ?_
      rotate_left
      · have e60 := hp.backV 8 0 rfl rfl rfl rfl rfl; have e10 := hp.slotV 10 (by kernel_rfl) rfl; simp at e10
        refine ⟨hp.want rfl rfl rfl e60, ?_⟩
        clear hp
        go_simp
        rfl
      refine Free.Seq.val ?_ (fun _ => Below.refl _ _) (fun a w1 hI hp => ?_) ?_
      rotate_left
      · have e60 := hp.backV 8 1 rfl rfl rfl rfl rfl; have e61 := hp.backV 9 0 rfl rfl rfl rfl rfl
        refine ⟨hp.want rfl rfl rfl e60, ?_⟩
        clear hp
        go_simp
        rfl
      refine Free.Seq.val ?_ (fun _ => Below.refl _ _) (fun a w1 hI hp => ?_) ?_
      rotate_left
      · have e60 := hp.backV 8 2 rfl rfl rfl rfl rfl; have e62 := hp.backV 10 0 rfl rfl rfl rfl rfl
        refine ⟨Free.want_none rfl, ?_⟩
        clear hp
        go_simp
        rfl
      refine Free.Seq.val ?_ (fun _ => Below.refl _ _) (fun a w1 hI hp => ?_) ?_
      rotate_left
      · have e63 := hp.backV 11 0 rfl rfl rfl rfl rfl
        refine ⟨Free.want_none rfl, ?_⟩
        clear hp
        go_simp
        rfl
      refine Free.Seq.val ?_ (fun _ => Below.refl _ _) (fun a w1 hI hp => ?_) ?_
      rotate_left
      · have e64 := hp.backV 12 0 rfl rfl rfl rfl rfl; have e9 := hp.slotV 9 (by kernel_rfl) rfl; simp at e9
        refine ⟨hp.want rfl rfl rfl e64, ?_⟩
        clear hp
        go_simp
        rfl
      refine Free.Seq.val ?_ (fun _ => Below.refl _ _) (fun a w1 hI hp => ?_) ?_
      rotate_left
      · have e64 := hp.backV 12 1 rfl rfl rfl rfl rfl; have e10 := hp.slotV 10 (by kernel_rfl) rfl; simp at e10
        refine ⟨hp.want rfl rfl rfl e64, ?_⟩
        clear hp
        go_simp
        rfl
      refine Free.Seq.val ?_ (fun _ => Below.refl _ _) (fun a w1 hI hp => ?_) ?_
      rotate_left
      · have e64 := hp.backV 12 2 rfl rfl rfl rfl rfl; have e66 := hp.backV 14 0 rfl rfl rfl rfl rfl
        have gw : IntKind.i64.wrap 0 = 0 := by decide
        refine ⟨hp.want rfl rfl rfl e64, ?_⟩
        clear hp
        go_simp
        rfl
      refine Free.Seq.val ?_ (fun _ => Below.refl _ _) (fun a w1 hI hp => ?_) ?_
      rotate_left
      · have e64 := hp.backV 12 3 rfl rfl rfl rfl rfl; have e65 := hp.backV 13 2 rfl rfl rfl rfl rfl; have e67 := hp.backV 15 0 rfl rfl rfl rfl rfl
        refine ⟨hp.want rfl rfl rfl e64, ?_⟩
        clear hp
        go_simp
        rfl
      refine Free.Seq.val ?_ (fun _ => Below.refl _ _) (fun a w1 hI hp => ?_) ?_
      rotate_left
      · have e64 := hp.backV 12 4 rfl rfl rfl rfl rfl; have e68 := hp.backV 16 0 rfl rfl rfl rfl rfl
        have e := (hI.cell (p := ⟨b, off, none⟩) hbl6).trans hc7
        refine ⟨hp.want rfl rfl rfl e64, ?_⟩
        clear hp
        go_simp
        rfl
      refine Free.Seq.val ?_ (fun _ => Below.refl _ _) (fun a w1 hI hp => ?_) ?_
      rotate_left
      · have e64 := hp.backV 12 5 rfl rfl rfl rfl rfl; have e69 := hp.backV 17 0 rfl rfl rfl rfl rfl
        have hc := (HR7.out.below hI).string (P := Try.prog) 25 9 5 Try.underlying25 Try.underlying5 Try.underlying9
        refine ⟨hp.want rfl rfl rfl e64, ?_⟩
        clear hp
        go_simp
        rfl
      refine Free.Seq.val ?_ (fun _ => Below.refl _ _) (fun a w1 hI hp => ?_) ?_
      rotate_left
      · have e64 := hp.backV 12 6 rfl rfl rfl rfl rfl; have e1 := hp.slotV 1 (by kernel_rfl) rfl; simp at e1
        refine ⟨hp.want rfl rfl rfl e64, ?_⟩
        clear hp
        go_simp
        rfl
      refine Free.Seq.val ?_ (fun _ => Below.refl _ _) (fun a w1 hI hp => ?_) ?_
      rotate_left
      · have e64 := hp.backV 12 7 rfl rfl rfl rfl rfl; have e71 := hp.backV 19 0 rfl rfl rfl rfl rfl
        have hc := ((HR1.out.below HB6.out).below hI).string (P := Try.prog) 25 9 5 Try.underlying25 Try.underlying5 Try.underlying9
        refine ⟨hp.want rfl rfl rfl e64, ?_⟩
        clear hp
        go_simp
        rfl
      refine Free.Seq.val ?_ (fun _ => Below.refl _ _) (fun a w1 hI hp => ?_) ?_
      rotate_left
      · have e64 := hp.backV 12 8 rfl rfl rfl rfl rfl; have e70 := hp.backV 18 2 rfl rfl rfl rfl rfl; have e72 := hp.backV 20 0 rfl rfl rfl rfl rfl
        refine ⟨hp.want rfl rfl rfl e64, ?_⟩
        clear hp
        go_simp
        rfl
      refine Free.Seq.val ?_ (fun _ => Below.refl _ _) (fun a w1 hI hp => ?_) ?_
      rotate_left
      · have e64 := hp.backV 12 9 rfl rfl rfl rfl rfl; have e73 := hp.backV 21 0 rfl rfl rfl rfl rfl
        refine ⟨Free.want_none rfl, ?_⟩
        clear hp
        go_simp
        rfl
      refine Free.Seq.val ?_ (fun _ => Below.refl _ _) (fun a w1 hI hp => ?_) ?_
      rotate_left
      · have e74 := hp.backV 22 0 rfl rfl rfl rfl rfl
        refine ⟨Free.want_none rfl, ?_⟩
        clear hp
        go_simp
        rfl
      refine Free.Seq.val ?_ (fun _ => Below.refl _ _) (fun a w1 hI hp => ?_) ?_
      rotate_left
      · have e75 := hp.backV 23 0 rfl rfl rfl rfl rfl; have e5 := hp.slotV 5 (by kernel_rfl) rfl; simp at e5
        refine ⟨hp.want rfl rfl rfl e75, ?_⟩
        clear hp
        go_simp
        rfl
      refine Free.Seq.call (T := Free.eqF (.int .i64 0)) (fun _ _ _ h _ => h) (fun a w1 hI hp => ?_) ?_
      · have e75 := hp.backV 23 1 rfl rfl rfl rfl rfl; have e76 := hp.backV 24 0 rfl rfl rfl rfl rfl
        refine ⟨hp.want rfl rfl rfl e75, 16, #[.pointer (some ⟨w.heap.size, 0, none⟩)], ?_, ?_⟩
        · clear hp
          go_simp
        · refine (dinside_any _ (HD6.out.below hI)).mono ?_
          rintro e w' ⟨rfl, rfl⟩
          exact ⟨_, rfl, by rw [HD2H.out, HD2I.out]; rfl, Below.refl _ _, hI⟩
      refine Free.Seq.val ?_ (fun _ => Below.refl _ _) (fun a w1 hI hp => ?_) ?_
      rotate_left
      · have e75 := hp.backV 23 2 rfl rfl rfl rfl rfl; have e77 := hp.backV 25 0 rfl rfl rfl rfl rfl
        refine ⟨hp.want rfl rfl rfl e75, ?_⟩
        clear hp
        go_simp
        rfl
      refine Free.Seq.val ?_ (fun _ => Below.refl _ _) (fun a w1 hI hp => ?_) ?_
      rotate_left
      · have e75 := hp.backV 23 3 rfl rfl rfl rfl rfl; have e78 := hp.backV 26 0 rfl rfl rfl rfl rfl
        refine ⟨Free.want_none rfl, ?_⟩
        clear hp
        go_simp
        rfl
      refine Free.Seq.val ?_ (fun _ => Below.refl _ _) (fun a w1 hI hp => ?_) ?_
      rotate_left
      · have e79 := hp.backV 27 0 rfl rfl rfl rfl rfl
        refine ⟨Free.want_none rfl, ?_⟩
        clear hp
        go_simp
        rfl
      refine Free.Seq.call (T := Free.eqF (.bool true)) (fun _ _ _ h _ => h) (fun a w1 hI hp => ?_) ?_
      · have e80 := hp.backV 28 0 rfl rfl rfl rfl rfl
        refine ⟨hp.want rfl rfl rfl e80, 18, #[], ?_, ?_⟩
        · clear hp
          go_simp
        · refine (awake_any _).mono ?_
          rintro e w' ⟨rfl, hb⟩
          exact ⟨_, rfl, rfl, hb, hI.trans (hb.mono hI.size)⟩
      refine Free.Seq.val ?_ (fun _ => Below.refl _ _) (fun a w1 hI hp => ?_) ?_
      rotate_left
      · have e80 := hp.backV 28 1 rfl rfl rfl rfl rfl; have e81 := hp.backV 29 0 rfl rfl rfl rfl rfl
        refine ⟨Free.want_none rfl, ?_⟩
        clear hp
        go_simp
        rfl
      refine Free.Seq.val ?_ (fun _ => Below.refl _ _) (fun a w1 hI hp => ?_) ?_
      rotate_left
      · have e82 := hp.backV 30 0 rfl rfl rfl rfl rfl
        refine ⟨Free.want_none rfl, ?_⟩
        clear hp
        go_simp
        rfl
      refine Free.Seq.done (by simp) (fun wz hIz => ?_)
      simp only [List.reverse_cons, List.reverse_nil, List.nil_append, List.cons_append, Free.All, Free.eqF, forall_eq]
      have HIZ := Lib.hid hIz
      clear hIz
      simp only [Free.putL, Act.put, List.setIfInBounds_toArray, List.set_cons_zero, List.set_cons_succ]
      go_wp2
      go_ret
      exact ⟨rfl, HB6.out.trans (HIZ.out.mono HB6.out.size)⟩
end Go.Proofs.Ytpfilomckijmkaa
