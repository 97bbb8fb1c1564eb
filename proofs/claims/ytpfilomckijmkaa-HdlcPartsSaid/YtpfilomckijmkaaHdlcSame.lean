/-
  LISTS THAT ARE THE SAME; how many bytes the document's decoder has gathered.
-/
import Derived.Test.YtpfilomckijmkaaHdlcFeedR
namespace Go.Proofs.Ytpfilomckijmkaa
open Go.RowKit

set_option maxHeartbeats 1000000 in
theorem rsame_eq (w : World) (A A' : Option Addr) (n c c' : Nat) (ls : List (List UInt8)) (h1 : RdL w A n c ls) (h2 : RdL w A' n c' ls) :
    Calls Try.prog 14 #[.slice A n c, .slice A' n c'] w fun e w' => e = .returned (.bool true) ∧ Below w.heap.size w w' := by
  have hbig := h1.big
  have H1 := Lib.hid h1
  have H2 := Lib.hid h2
  clear h1 h2
  go_enter Try.func14, Try.ntmps14
  go_wp2
  go_loopw [5] (fun i wr => ∃ k : Nat, k ≤ n ∧ i = .int .i64 k ∧ Hid (Below w.heap.size w wr)) (fun i _ => n - (intOf i).toNat)
  case atStart => exact ⟨0, Nat.zero_le _, rfl, Below.refl _ _⟩
  case round =>
    obtain ⟨k, hk, rfl, hb⟩ := hrel
    by_cases hlt : k < n
    · obtain ⟨b, off, l, A1, n1, c1, rfl, hb1, hl1, hc1, hr1⟩ := H1.out.at' hlt
      obtain ⟨b', off', l', A2, n2, c2, rfl, hb2, hl2, hc2, hr2⟩ := H2.out.at' hlt
      have e : l = l' := by rw [hl1] at hl2; injection hl2
      subst e
      have hs := hb.out.size
      have d1 := (hb.out.cell (p := ⟨b, off + k, none⟩) hb1).trans hc1
      have d2 := (hb.out.cell (p := ⟨b', off' + k, none⟩) hb2).trans hc2
      have q1 := hr1.below hb.out
      have q2 := hr2.below hb.out
      have k1 : b < wr.heap.size := by omega
      have k2 : b' < wr.heap.size := by omega
      clear hl1 hl2 hc1 hc2 hr1 hr2 hb1 hb2
      go_wp2_with fail
      refine Free.wp_seq (I := fun w' => Below wr.heap.size wr w') (Gr := fun w1 w2 => Below w1.heap.size w1 w2) (by kernel_rfl) (by kernel_rfl) (Below.refl _ _).drew ?_
      refine Free.Seq.val ?_ (fun _ => Below.refl _ _) (fun a w1 hI hp => ?_) ?_
      rotate_left
      · have e0 := hp.slotV 0 (by kernel_rfl) rfl; simp at e0
        refine ⟨Free.want_none rfl, ?_⟩
        clear hp
        go_simp
        rfl
      refine Free.Seq.val ?_ (fun _ => Below.refl _ _) (fun a w1 hI hp => ?_) ?_
      rotate_left
      · have e5 := hp.slotV 5 (by kernel_rfl) rfl; simp at e5
        refine ⟨Free.want_none rfl, ?_⟩
        clear hp
        go_simp
        rfl
      refine Free.Seq.val ?_ (fun _ => Below.refl _ _) (fun a w1 hI hp => ?_) ?_
      rotate_left
      · have e17 := hp.backV 0 1 rfl rfl rfl rfl rfl; have e18 := hp.backV 1 0 rfl rfl rfl rfl rfl
        refine ⟨Free.want_none rfl, ?_⟩
        clear hp
        go_simp
        rfl
      refine Free.Seq.val ?_ (fun _ => Below.refl _ _) (fun a w1 hI hp => ?_) ?_
      rotate_left
      · have e19 := hp.backV 2 0 rfl rfl rfl rfl rfl
        have e := (hI.cell (p := ⟨b, off + k, none⟩) k1).trans d1
        refine ⟨Free.want_none rfl, ?_⟩
        clear hp
        go_simp
        rfl
      refine Free.Seq.val ?_ (fun _ => Below.refl _ _) (fun a w1 hI hp => ?_) ?_
      rotate_left
      · have e20 := hp.backV 3 0 rfl rfl rfl rfl rfl
        have hc := (q1.below hI).string (P := Try.prog) 25 9 5 Try.underlying25 Try.underlying5 Try.underlying9
        refine ⟨Free.want_none rfl, ?_⟩
        clear hp
        go_simp
        rfl
      refine Free.Seq.val ?_ (fun _ => Below.refl _ _) (fun a w1 hI hp => ?_) ?_
      rotate_left
      · have e1 := hp.slotV 1 (by kernel_rfl) rfl; simp at e1
        refine ⟨Free.want_none rfl, ?_⟩
        clear hp
        go_simp
        rfl
      refine Free.Seq.val ?_ (fun _ => Below.refl _ _) (fun a w1 hI hp => ?_) ?_
      rotate_left
      · have e5 := hp.slotV 5 (by kernel_rfl) rfl; simp at e5
        refine ⟨Free.want_none rfl, ?_⟩
        clear hp
        go_simp
        rfl
      refine Free.Seq.val ?_ (fun _ => Below.refl _ _) (fun a w1 hI hp => ?_) ?_
      rotate_left
      · have e22 := hp.backV 5 1 rfl rfl rfl rfl rfl; have e23 := hp.backV 6 0 rfl rfl rfl rfl rfl
        refine ⟨Free.want_none rfl, ?_⟩
        clear hp
        go_simp
        rfl
      refine Free.Seq.val ?_ (fun _ => Below.refl _ _) (fun a w1 hI hp => ?_) ?_
      rotate_left
      · have e24 := hp.backV 7 0 rfl rfl rfl rfl rfl
        have e := (hI.cell (p := ⟨b', off' + k, none⟩) k2).trans d2
        refine ⟨Free.want_none rfl, ?_⟩
        clear hp
        go_simp
        rfl
      refine Free.Seq.val ?_ (fun _ => Below.refl _ _) (fun a w1 hI hp => ?_) ?_
      rotate_left
      · have e25 := hp.backV 8 0 rfl rfl rfl rfl rfl
        have hc := (q2.below hI).string (P := Try.prog) 25 9 5 Try.underlying25 Try.underlying5 Try.underlying9
        refine ⟨Free.want_none rfl, ?_⟩
        clear hp
        go_simp
        rfl
      refine Free.Seq.val ?_ (fun _ => Below.refl _ _) (fun a w1 hI hp => ?_) ?_
      rotate_left
      · have e21 := hp.backV 4 5 rfl rfl rfl rfl rfl; have e26 := hp.backV 9 0 rfl rfl rfl rfl rfl
        refine ⟨Free.want_none rfl, ?_⟩
        clear hp
        go_simp
        rfl
      refine Free.Seq.done (by simp) (fun wz hIz => ?_)
      simp only [List.reverse_cons, List.reverse_nil, List.nil_append, List.cons_append, Free.All, Free.eqF, forall_eq]
      have HIZ := Lib.hid hIz
      clear hIz
      simp only [Free.putL, Act.put, List.setIfInBounds_toArray, List.set_cons_zero, List.set_cons_succ]
      go_wp2_with fail
      go_roundw
      case rel => exact ⟨k + 1, by omega, by go_num, hb.out.trans (HIZ.out.mono hb.out.size)⟩
      case measure => simp [intOf]; omega
    · go_wp2
      go_ret
      exact ⟨rfl, hb.out⟩

set_option maxHeartbeats 1000000 in
theorem rinside_any (w : World) (d : Hdl.Dec) (A : Option Addr) (c : Nat) :
    Calls Try.prog 17 #[.agg (rcs d (.slice A d.inn.length c))] w fun e w' => e = .returned (.int .i64 (if d.hunts = true then -1 else (d.inn.length : Int))) ∧ Below w.heap.size w w' := by
  obtain ⟨hu, inn, m⟩ := d
  unfold rcs
  cases hu with
  | true =>
    go_enter Try.func17, Try.ntmps17
    go_wp2
    go_ret
    exact ⟨rfl, (Below.refl _ _).alloc (Nat.le_refl _) _⟩
  | false =>
    go_enter Try.func17, Try.ntmps17
    go_wp2
    go_ret
    exact ⟨rfl, (Below.refl _ _).alloc (Nat.le_refl _) _⟩

set_option maxHeartbeats 1000000 in
/-- cut -/
theorem cut_any (w : World) (A : Option Addr) (n c : Nat) (l : List UInt8) (hR : Rd w A n c l) :
    Calls Try.prog 11 #[.slice A n c] w fun e w' => e = .returned (.slice A (min n 3000) c) ∧ w = w' := by
  have hcap := hR.cap
  clear hR
  by_cases h : 3000 < n
  · have hm : min n 3000 = 3000 := by omega
    rw [hm]
    have h1 : (3000 : Int) < (n : Int) := by omega
    have h2 : (3000 : Int) ≤ (c : Int) := by omega
    clear h hm hcap
    go_enter Try.func11, Try.ntmps11
    go_wp2
    go_ret
    exact ⟨rfl, rfl⟩
  · have hm : min n 3000 = n := by omega
    rw [hm]
    have h1 : ¬ (3000 : Int) < (n : Int) := by omega
    clear h hm hcap
    go_enter Try.func11, Try.ntmps11
    go_wp2
    go_ret
    exact ⟨rfl, rfl⟩
end Go.Proofs.Ytpfilomckijmkaa
