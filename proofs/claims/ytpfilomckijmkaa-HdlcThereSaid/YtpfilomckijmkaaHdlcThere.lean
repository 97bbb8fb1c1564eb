/-
  HdlcThere: each content that is told, encoded, stands in the bytes.
-/
import Derived.Test.YtpfilomckijmkaaHdlcLaws
import Derived.Test.YtpfilomckijmkaaHdlcFeeds
import Derived.Test.YtpfilomckijmkaaHdlcEncodes
namespace Go.Proofs.Ytpfilomckijmkaa
open Go.RowKit

set_option maxHeartbeats 4000000 in
/-- HdlcThere -/
theorem there_law (A : Option Addr) (n c : Nat) (l : List UInt8) (w : World) (hR : Rd w A n c l) :
    Calls Try.prog 8 #[.slice A n c] w fun e w' => e = .returned (.bool true) ∧ Below w.heap.size w w' := by
  have HR := Lib.hid hR
  obtain ⟨m, hm⟩ : ∃ m, m = min n 3000 := ⟨_, rfl⟩
  have hm3 : m ≤ 3000 := by omega
  have hcut : ∀ W, Rd W A n c l → Calls Try.prog 11 #[.slice A n c] W fun e w' => e = .returned (.slice A m c) ∧ W = w' := fun W h => by rw [hm]; exact cut_any W A n c l h
  have hr3 : Rd w A m c (l.take m) := hR.take (by omega)
  obtain ⟨p, hp⟩ : ∃ p, p = l.take m := ⟨_, rfl⟩
  rw [← hp] at hr3
  have HCUT := Lib.hid hcut
  have HR3 := Lib.hid hr3
  obtain ⟨ls, hls⟩ : ∃ ls, ls = (Hdl.feed Hdl.d0 p).2 := ⟨_, rfl⟩
  have hsn : ∀ q ∈ ls, 1 ≤ q.length ∧ q.length ≤ 128 ∧ Hdl.In p (Hdl.frame q) := by
    rw [hls]
    have := Hdl.seen_feed p [] Hdl.d0 (fun e => by cases e)
    simpa using this
  have hll : ls.length ≤ 3000 := by rw [hls]; have := Hdl.told_feed p Hdl.d0; rw [hr3.len] at this; omega
  have HSN := Lib.hid hsn
  have HLS := Lib.hid hls
  clear hR hcut hr3 hp hm hsn hls
  go_enter Try.func8, Try.ntmps8
  go_wp2_with fail
  refine (dnew_any w).mono ?_
  rintro e w1 ⟨rfl, hd, hb⟩
  have HB := Lib.hid hb
  have HD := Lib.hid hd
  clear hb hd
  go_wp2_with fail
  refine (HCUT.out w1 (HR.out.below HB.out)).mono ?_
  rintro e w2 ⟨rfl, rfl⟩
  have hlt1 := HD.out.lt
  go_wp2_with fail
  have hfd := dfeed_any (d := Hdl.d0) w1 A m c p (HD.out.recut (Nat.le_refl _)) (HR3.out.below HB.out) (fun h0 b off e h => by
      obtain ⟨b2, off2, e2, hb2, _⟩ := HR3.out.at_ h0
      rw [e] at e2
      injection e2 with e2
      injection e2 with e2
      rcases h with h | h | h
      · omega
      · simp [Value.ownBlock] at h
      · simp [Value.ownBlock] at h) Hdl.ok0 0 Hdl.le0 (by omega) (by simp; omega)
  rw [List.nil_append, ← HLS.out] at hfd
  refine hfd.mono ?_
  clear hfd
  rintro e w3 ⟨I', A3, c3, xs3, rfl, hd3, hs3, ht3, hk3, hi3, ha3⟩
  have hrl : RdLN w3 w1.heap.size A3 ls.length c3 ls := Told.rdl hs3 ht3 (fun q e => by
    rcases ha3 q e with h | h
    · simp [Value.ownBlock] at h
    · exact h) rfl (by omega) (by rw [HLS.out]; exact Hdl.feed_len p Hdl.d0)
  have hbs := HB.out.size
  have hdis : ∀ i, DcS w.heap.size (.slice none 0 0) (.slice none 0 0) i → w.heap.size ≤ i := fun i h => by
    rcases h with h | h | h
    · omega
    · simp [Value.ownBlock] at h
    · simp [Value.ownBlock] at h
  have hb3 : Below w.heap.size w w3 := HB.out.trans (hk3.below hbs (fun i hi h => by have := hdis i h; omega))
  have HB3 := Lib.hid hb3
  have HRL := Lib.hid hrl.rdl
  have hrp : Rd w3 A m c p := HR3.out.below hb3
  have HRP := Lib.hid hrp
  have hpl := HRP.out.len
  have HPL := Lib.hid hpl
  clear hrl hd3 hs3 ht3 hk3 hi3 ha3 hb3 hrp hdis HD hpl
  go_wp2_with fail
  go_loopw [5] (fun i wr => ∃ k : Nat, k ≤ ls.length ∧ i = .int .i64 k ∧ Hid (Below w3.heap.size w3 wr)) (fun i _ => ls.length - (intOf i).toNat)
  case atStart => exact ⟨0, Nat.zero_le _, rfl, Below.refl _ _⟩
  case round =>
    obtain ⟨k, hk, rfl, hI⟩ := hrel
    by_cases hlt : k < ls.length
    · obtain ⟨b, off, q, A1, n1, c1, rfl, hb1, hq, hc1, hr1⟩ := HRL.out.at' hlt
      obtain ⟨hq1, hq2, hin⟩ := HSN.out q (List.mem_of_getElem? hq)
      have hcw : wr.cell? ⟨b, off + k, none⟩ = some (.slice A1 n1 c1) := (hI.out.cell (p := ⟨b, off + k, none⟩) hb1).trans hc1
      have hen : ∀ W, Rd W A1 n1 c1 q → Calls Try.prog 20 #[.slice A1 n1 c1] W (EncP W (Hdl.frame q) (Hdl.frame q).length 0) := fun W h => by
        have e1 : Hdl.encE q = 0 := by rw [Hdl.encE, if_neg (by omega), if_neg (by omega)]
        have e2 : Hdl.encB q = Hdl.frame q := by rw [Hdl.encB, if_neg (by omega)]
        have := encode_any A1 n1 c1 q W h
        rwa [e1, e2] at this
      obtain ⟨fr, hfr⟩ : ∃ fr, fr = Hdl.frame q := ⟨_, rfl⟩
      obtain ⟨N, hN⟩ : ∃ N, N = fr.length := ⟨_, rfl⟩
      rw [← hfr] at hin
      simp only [← hfr] at hen
      simp only [← hN] at hen
      obtain ⟨a, z, haz⟩ := hin
      have hlen : a.length + N ≤ m := by rw [← HPL.out, haz, hN]; simp
      have hcutp : (p.take (a.length + N)).drop a.length = fr := by
        have h1 : (a ++ fr ++ z).take (a.length + fr.length) = a ++ fr := by rw [← List.length_append]; exact List.take_left' rfl
        rw [haz, hN, h1, List.drop_left' rfl]
      have HEN := Lib.hid hen
      have HR1 := Lib.hid hr1
      have HN := Lib.hid hN
      have HCP := Lib.hid hcutp
      clear hen hr1 hN hcutp haz hfr hc1 hq hq1 hq2
      go_wp2_with fail
      refine (HEN.out wr (HR1.out.below hI.out)).mono ?_
      rintro e w4 ⟨A4, c4, rfl, hr4, _, hb4⟩
      have HR4 := Lib.hid hr4
      have hIs := hI.out.size
      have HB4 := Lib.hid (hI.out.trans (hb4.mono hIs))
      clear hr4 hb4 hcw hI HR1 HEN
      obtain ⟨wo, rfl⟩ : ∃ wo : World, wo = wr := ⟨_, rfl⟩
      go_wp2_with fail
      go_loopw [8, 9] (fun v i wr => ∃ (j : Nat) (f : Bool), j ≤ m + 1 ∧ i = .int .i64 j ∧ v = .bool f ∧ (f = false → j ≤ a.length) ∧ Hid (Below w4.heap.size w4 wr)) (fun _ i _ => m + 2 - (intOf i).toNat)
      case atStart => exact ⟨0, false, Nat.zero_le _, rfl, rfl, fun _ => Nat.zero_le _, Below.refl _ _⟩
      case round =>
        obtain ⟨j, f, hj, rfl, rfl, hf, hI4⟩ := hrel
        cases f with
        | true =>
          clear hf
          by_cases hjn : j + N ≤ m
          · have t1 : ((j : Int) + (N : Int)) ≤ (m : Int) := by omega
            go_wp2_with fail
            go_roundw
            case rel => exact ⟨k + 1, by omega, by go_num, HB4.out.trans (hI4.out.mono HB4.out.size)⟩
            case measure => simp [intOf]; omega
          · have t1 : ¬ ((j : Int) + (N : Int)) ≤ (m : Int) := by omega
            go_wp2_with fail
            go_roundw
            case rel => exact ⟨k + 1, by omega, by go_num, HB4.out.trans (hI4.out.mono HB4.out.size)⟩
            case measure => simp [intOf]; omega
        | false =>
          have hja := hf rfl
          clear hf
          have t1 : ((j : Int) + (N : Int)) ≤ (m : Int) := by omega
          have hwr : Below w.heap.size w wr := (HB3.out.trans (HB4.out.mono HB3.out.size)).trans (hI4.out.mono (by have := HB3.out.size; have := HB4.out.size; omega))
          have hcapp := HRP.out.cap
          have hr6 := ((HR3.out.below hwr).take (k := j + N) (by omega)).drop (k := j) (by omega)
          rw [Nat.add_sub_cancel_left] at hr6
          obtain ⟨sl, hsl⟩ : ∃ sl, sl = (p.take (j + N)).drop j := ⟨_, rfl⟩
          rw [← hsl] at hr6
          have HSL := Lib.hid hsl
          clear hsl
          have hrf := HR4.out.below hI4.out
          have HRS := Lib.hid hr6
          have HRF := Lib.hid hrf
          clear hr6 hrf hwr
          go_wp2_with fail
          refine Free.wp_seq (I := fun w' => Below wr.heap.size wr w') (Gr := fun w1 w2 => Below w1.heap.size w1 w2) (by kernel_rfl) (by kernel_rfl) (Below.refl _ _).drew ?_
          refine Free.Seq.val ?_ (fun _ => Below.refl _ _) (fun a w1 hI hp => ?_) ?_
          rotate_left
          · have e0 := hp.slotV 0 (by kernel_rfl) rfl; simp at e0
            refine ⟨Free.want_none rfl, ?_⟩
            clear hp
            go_simp
            rfl
          refine Free.Seq.val ?_ (fun _ => Below.refl _ _) (fun a w1 hI hp => ?_) ?_
          rotate_left
          · have e9 := hp.slotV 9 (by kernel_rfl) rfl; simp at e9
            refine ⟨Free.want_none rfl, ?_⟩
            clear hp
            go_simp
            rfl
          refine Free.Seq.val ?_ (fun _ => Below.refl _ _) (fun a w1 hI hp => ?_) ?_
          rotate_left
          · have e9 := hp.slotV 9 (by kernel_rfl) rfl; simp at e9
            refine ⟨Free.want_none rfl, ?_⟩
            clear hp
            go_simp
            rfl
          refine Free.Seq.val ?_ (fun _ => Below.refl _ _) (fun a w1 hI hp => ?_) ?_
          rotate_left
          · have e6 := hp.slotV 6 (by kernel_rfl) rfl; simp at e6
            refine ⟨Free.want_none rfl, ?_⟩
            clear hp
            go_simp
            rfl
          refine Free.Seq.val ?_ (fun _ => Below.refl _ _) (fun a w1 hI hp => ?_) ?_
          rotate_left
          · have e50 := hp.backV 3 0 rfl rfl rfl rfl rfl
            refine ⟨Free.want_none rfl, ?_⟩
            clear hp
            go_simp
            rfl
          refine Free.Seq.val ?_ (fun _ => Below.refl _ _) (fun a w1 hI hp => ?_) ?_
          rotate_left
          · have e49 := hp.backV 2 2 rfl rfl rfl rfl rfl; have e51 := hp.backV 4 0 rfl rfl rfl rfl rfl
            have gw : IntKind.i64.wrap ((j : Int) + (N : Int)) = (j : Int) + (N : Int) := IntWalk.i64_in _ ⟨by omega, by omega⟩
            refine ⟨Free.want_none rfl, ?_⟩
            clear hp
            go_simp
            rfl
          refine Free.Seq.val ?_ (fun _ => Below.refl _ _) (fun a w1 hI hp => ?_) ?_
          rotate_left
          · have e47 := hp.backV 0 5 rfl rfl rfl rfl rfl; have e48 := hp.backV 1 4 rfl rfl rfl rfl rfl; have e52 := hp.backV 5 0 rfl rfl rfl rfl rfl
            have b0 : (0 : Int) ≤ (j : Int) := by omega
            have b1 : (j : Int) ≤ (j : Int) + (N : Int) := by omega
            have b2 : (j : Int) + (N : Int) ≤ (c : Int) := by omega
            have b3 : ((j : Int) + (N : Int)).toNat = j + N := by omega
            have b4 : ((j : Int)).toNat = j := by omega
            have b5 : (0 : Int) ≤ (j : Int) + (N : Int) := by omega
            refine ⟨Free.want_none rfl, ?_⟩
            clear hp
            go_simp
            rfl
          refine Free.Seq.val ?_ (fun _ => Below.refl _ _) (fun a w1 hI hp => ?_) ?_
          rotate_left
          · have e53 := hp.backV 6 0 rfl rfl rfl rfl rfl
            have hc := (HRS.out.below hI).string (P := Try.prog) 25 9 5 Try.underlying25 Try.underlying5 Try.underlying9
            refine ⟨Free.want_none rfl, ?_⟩
            clear hp
            go_simp
            rfl
          refine Free.Seq.val ?_ (fun _ => Below.refl _ _) (fun a w1 hI hp => ?_) ?_
          rotate_left
          · have e6 := hp.slotV 6 (by kernel_rfl) rfl; simp at e6
            refine ⟨Free.want_none rfl, ?_⟩
            clear hp
            go_simp
            rfl
          refine Free.Seq.val ?_ (fun _ => Below.refl _ _) (fun a w1 hI hp => ?_) ?_
          rotate_left
          · have e55 := hp.backV 8 0 rfl rfl rfl rfl rfl
            have hc := (HRF.out.below hI).string (P := Try.prog) 25 9 5 Try.underlying25 Try.underlying5 Try.underlying9
            refine ⟨Free.want_none rfl, ?_⟩
            clear hp
            go_simp
            rfl
          refine Free.Seq.val ?_ (fun _ => Below.refl _ _) (fun a w1 hI hp => ?_) ?_
          rotate_left
          · have e54 := hp.backV 7 2 rfl rfl rfl rfl rfl; have e56 := hp.backV 9 0 rfl rfl rfl rfl rfl
            refine ⟨Free.want_none rfl, ?_⟩
            clear hp
            go_simp
            rfl
          refine Free.Seq.val ?_ (fun _ => Below.refl _ _) (fun a w1 hI hp => ?_) ?_
          rotate_left
          · have e57 := hp.backV 10 0 rfl rfl rfl rfl rfl
            refine ⟨Free.want_none rfl, ?_⟩
            clear hp
            go_simp
            rfl
          refine Free.Seq.done (by simp) (fun wz hIz => ?_)
          simp only [List.reverse_cons, List.reverse_nil, List.nil_append, List.cons_append, Free.All, Free.eqF, forall_eq]
          have HIZ := Lib.hid hIz
          clear hIz
          simp only [Free.putL, Act.put, List.setIfInBounds_toArray, List.set_cons_zero, List.set_cons_succ]
          go_wp2_with fail
          go_roundw
          case rel =>
            refine ⟨j + 1, sl == fr, by omega, by go_num, rfl, fun h => ?_, hI4.out.trans (HIZ.out.mono hI4.out.size)⟩
            have hne : j ≠ a.length := by
              rintro rfl
              rw [HSL.out, HCP.out] at h
              simp at h
            omega
          case measure => simp [intOf]; omega
    · obtain rfl : k = ls.length := by omega
      have HB := Lib.hid (HB3.out.trans (hI.out.mono HB3.out.size))
      clear hI
      go_wp2_with fail
      refine (awake_any _).mono ?_
      rintro e w5 ⟨rfl, hb5⟩
      go_wp2
      go_ret
      exact ⟨rfl, HB.out.trans (hb5.mono HB.out.size)⟩
end Go.Proofs.Ytpfilomckijmkaa
