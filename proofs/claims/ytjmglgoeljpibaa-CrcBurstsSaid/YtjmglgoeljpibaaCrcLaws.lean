/-
  THE SIX STATEMENTS' WALKS: each law returns true, and what was there in memory stays as it was.
-/
import Derived.Test.YtjmglgoeljpibaaCrcMore
namespace Go.Proofs.Ytjmglgoeljpibaa
open Go.RowKit

set_option maxHeartbeats 1000000 in
/-- CrcSteps -/
theorem steps_law (n : Nat) (b : UInt8) (hn : n < 65536) (w : World) :
    Calls Try.prog 4 #[.int .u16 (n : Int), bv b] w fun e w' => e = .returned (.bool true) ∧ Below w.heap.size w w' := by
  have hs := Crc.step16_lt n hn b
  have h1 := step_any n b hn w
  have h2 := take_any n Crc.P16 33800 b (by omega) (by decide) (by decide) w
  obtain ⟨z, hz⟩ : ∃ z, z = Crc.step Crc.P16 n b := ⟨_, rfl⟩
  rw [← hz] at h1 h2 hs
  have H1 := Lib.hid h1
  have H2 := Lib.hid h2
  clear h1 h2 hz
  go_enter Try.func4, Try.ntmps4
  go_wp2_with (first
    | (go_at_call 15; refine H1.out.mono ?_; rintro e w' ⟨rfl, rfl⟩)
    | (go_at_call 16; refine H2.out.mono ?_; rintro e w' ⟨rfl, rfl⟩)
    | (go_at_call 14; refine (awake_any _).mono ?_; rintro e w' ⟨rfl, hb⟩))
  go_ret
  exact ⟨rfl, hb⟩

set_option maxHeartbeats 1000000 in
/-- CrcSums -/
theorem sums_law (A : Option Addr) (n c : Nat) (ls : List (List UInt8)) (w : World) (hR : RdL w A n c ls) (ht : ls.flatten.length ≤ 140737488355000) :
    Calls Try.prog 3 #[.slice A n c] w fun e w' => e = .returned (.bool true) ∧ Below w.heap.size w w' := by
  have T1 := together_any A n c ls w hR ht
  have F1 := fun wx h => fcs_any A n c ls wx h
  have S1 := fun wx h => sum_any A n c ls wx h
  obtain ⟨L, hL⟩ : ∃ L, L = ls.flatten := ⟨_, rfl⟩
  rw [← hL] at T1 ht
  simp only [← hL] at F1 S1
  have HT := Lib.hid T1
  have HF := Lib.hid F1
  have HS := Lib.hid S1
  clear T1 F1 S1 hL
  go_enter Try.func3, Try.ntmps3
  go_wp2_with fail
  refine HT.out.mono ?_
  rintro e w1 ⟨v, rfl, ho, hb⟩
  obtain ⟨A1, c1, rfl, hr, _⟩ := ho.shape (by omega)
  have hR1 := hR.below hb
  go_wp2_with (first
    | (go_at_call 10; refine (HF.out _ hR1).mono ?_; rintro e w' ⟨rfl, rfl⟩)
    | (go_at_call 11; refine (rfcs_any _ _ _ L _ hr).mono ?_; rintro e w' ⟨rfl, rfl⟩)
    | (go_at_call 12; refine (HS.out _ hR1).mono ?_; rintro e w' ⟨rfl, rfl⟩)
    | (go_at_call 13; refine (rsum_any _ _ _ L _ hr).mono ?_; rintro e w' ⟨rfl, rfl⟩)
    | (go_at_call 14; refine (awake_any _).mono ?_; rintro e w' ⟨rfl, hb2⟩))
  go_ret
  exact ⟨rfl, hb.trans (hb2.mono hb.size)⟩

/-- crc.Sum of one list -/
theorem sum_one {A : Option Addr} {n c : Nat} {l : List UInt8} {w : World} (hR : Rd w A n c l) (t : TypeId) (x : Int) (hx : x = (Crc.sum l : Int)) (g : Nat) (hg : g = w.heap.size) :
    Calls Try.prog 12 #[.slice (some ⟨g, 0, none⟩) 1 1] (w.alloc (.cells #[.slice A n c] t)) fun e w' => e = .returned (.int .u32 x) ∧ w.alloc (.cells #[.slice A n c] t) = w' := by
  subst hx hg
  have := sum_any _ _ _ [l] _ (RdL.single hR t)
  simpa using this

set_option maxHeartbeats 1000000 in
/-- CrcWide -/
theorem wide_law (A : Option Addr) (n c : Nat) (l : List UInt8) (at' : Int) (mask : Nat) (w : World) (hR : Rd w A n c l) (hn : n ≤ 140737488355000) (hm : mask < 4294967296) :
    Calls Try.prog 5 #[.slice A n c, .int .i64 at', .int .u32 (mask : Int)] w fun e w' => e = .returned (.bool true) ∧ Below w.heap.size w w' := by
  have hlen := Lib.hid hR.len
  have key := Crc.run_turn Crc.p32_lo Crc.p32_hi 4294967295 l at' mask
  have T1 := turn_any A n c l at' mask 32 32 w hR hn hm (by omega) rfl
  have hql : (Crc.turn l at' mask 32).1.length = n := by rw [Crc.turn_len, hlen.out]
  obtain ⟨q, hq⟩ : ∃ q, q = (Crc.turn l at' mask 32).1 := ⟨_, rfl⟩
  obtain ⟨T, hT⟩ : ∃ T, T = (Crc.turn l at' mask 32).2 := ⟨_, rfl⟩
  rw [← hq, ← hT] at T1
  rw [← hq] at hql
  have hlt1 := Crc.reg32_lt l
  have hlt2 := Crc.reg32_lt q
  obtain ⟨x, hx⟩ : ∃ x, x = ((Crc.sum l : Nat) : Int) := ⟨_, rfl⟩
  obtain ⟨y, hy⟩ : ∃ y, y = ((Crc.sum q : Nat) : Int) := ⟨_, rfl⟩
  have K : (x != y) = T := by
    have key2 : Crc.reg32 q = Crc.reg32 l ↔ T = false := by rw [hq, hT]; exact key
    rw [hx, hy]
    unfold Crc.sum
    cases T with
    | false =>
      rw [key2.2 rfl]
      simp
    | true =>
      have : ¬ Crc.reg32 q = Crc.reg32 l := fun h => by simpa using key2.1 h
      simp
      omega
  have HX := Lib.hid hx
  have HY := Lib.hid hy
  have HQ := Lib.hid hql
  have HT := Lib.hid T1
  clear hx hy hlt1 hlt2 key hq hT T1 hql
  go_enter Try.func5, Try.ntmps5
  go_wp2_with fail
  refine HT.out.mono ?_
  rintro e w1 ⟨A1, c1, rfl, ho, hb⟩
  have hr := ho.rd HQ.out (by omega)
  have hR1 := hR.below hb
  go_wp2_with fail
  refine (sum_one hR1 _ x HX.out _ rfl).mono ?_
  rintro e w' ⟨rfl, rfl⟩
  go_wp2_with fail
  refine (sum_one (hr.stays (Stays.alloc _ _)) _ y HY.out _ (by simp)).mono ?_
  rintro e w' ⟨rfl, rfl⟩
  have hb2 : Below w.heap.size w ((w1.alloc (.cells #[.slice A n c] 23)).alloc (.cells #[.slice A1 n c1] 23)) := (hb.alloc hb.size _).alloc (by have := hb.size; simp; omega) _
  go_wp2_with (go_at_call 14; refine (awake_any _).mono ?_; rintro e w' ⟨rfl, hb3⟩)
  go_ret
  exact ⟨rfl, hb2.trans (hb3.mono hb2.size)⟩

set_option maxHeartbeats 1000000 in
/-- CrcRests -/
theorem rests_law (A : Option Addr) (n c : Nat) (l : List UInt8) (w : World) (hR : Rd w A n c l) (_hn : n ≤ 140737488355000) :
    Calls Try.prog 6 #[.slice A n c] w fun e w' => e = .returned (.bool true) ∧ Below w.heap.size w w' := by
  have hbig := hR.big
  go_enter Try.func6, Try.ntmps6
  go_wp2_with fail
  go_loop [3, 4] (fun v i => ∃ j y : Nat, j ≤ n ∧ i = .int .i64 j ∧ v = .int .u16 (y : Int) ∧ y < 65536 ∧ Hid (y = Crc.run Crc.P16 65535 (l.take j))) (fun _ i => n - (intOf i).toNat)
  case atStart => exact ⟨0, 65535, Nat.zero_le _, rfl, rfl, by omega, rfl⟩
  case round =>
    obtain ⟨j, y, hj, rfl, rfl, hy, HY⟩ := hrel
    by_cases hlt' : j < n
    · obtain ⟨b', off', x, rfl, hb', hx, hcell'⟩ := hR.at' hlt'
      have HX := Lib.hid hx; clear hx
      go_wp2_with (go_at_call 15; refine (step_any y x hy _).mono ?_; rintro e w' ⟨rfl, rfl⟩)
      go_round
      case rel => exact ⟨j + 1, _, by omega, by go_num, rfl, Crc.step16_lt _ hy _, by rw [HY.out]; exact (run_take _ _ _ _ _ HX.out).symm⟩
      case measure => simp [intOf]; omega
    · obtain rfl : j = n := by omega
      have hlen := hR.len
      have HZ : y = Crc.reg16 l := by
        rw [HY.out, List.take_of_length_le (by rw [hlen]; exact Nat.le_refl _)]
        rfl
      by_cases h2 : j < 2
      · have hr : Crc.right l = false := by unfold Crc.right; simp; omega
        have C1 := cright_any A j c l w hR
        rw [hr] at C1
        have HC := Lib.hid C1
        clear hr C1 hlen HZ
        go_wp2_with (first
          | (go_at_call 18; refine HC.out.mono ?_; rintro e w1 ⟨rfl, hb⟩)
          | (go_at_call 14; refine (awake_any _).mono ?_; rintro e w' ⟨rfl, hb2⟩))
        go_ret
        exact ⟨rfl, hb.trans (hb2.mono hb.size)⟩
      · have hr := Crc.right_iff l (by omega)
        have C1 := cright_any A j c l w hR
        obtain ⟨r, hrr⟩ : ∃ r, r = Crc.right l := ⟨_, rfl⟩
        rw [← hrr] at C1 hr
        have K : ((y : Int) == 61624) = r := by
          rw [Bool.eq_iff_iff, hr, HZ]
          simp
          omega
        have HC := Lib.hid C1
        clear hr C1 hlen HZ hrr
        go_wp2_with (first
          | (go_at_call 18; refine HC.out.mono ?_; rintro e w1 ⟨rfl, hb⟩)
          | (go_at_call 14; refine (awake_any _).mono ?_; rintro e w' ⟨rfl, hb2⟩))
        go_ret
        exact ⟨rfl, hb.trans (hb2.mono hb.size)⟩

set_option maxHeartbeats 1000000 in
/-- CrcBursts -/
theorem bursts_law (A : Option Addr) (n c : Nat) (l : List UInt8) (at' : Int) (mask : Nat) (w : World) (hR : Rd w A n c l) (hn : n ≤ 140737488354000) (hm : mask < 65536) :
    Calls Try.prog 8 #[.slice A n c, .int .i64 at', .int .u16 (mask : Int)] w fun e w' => e = .returned (.bool true) ∧ Below w.heap.size w w' := by
  have hlen := Lib.hid hR.len
  have key := Crc.run_turn Crc.p16_lo Crc.p16_hi 65535 (Crc.added l) at' mask
  have hal : (Crc.added l).length = n + 2 := by simp [Crc.added, hlen.out]
  have T1 := fun A1 c1 w1 h => turn_any A1 (n + 2) c1 (Crc.added l) at' mask 16 16 w1 h (by omega) (by omega) (by omega) rfl
  have hql : (Crc.turn (Crc.added l) at' mask 16).1.length = n + 2 := by rw [Crc.turn_len, hal]
  obtain ⟨q, hq⟩ : ∃ q, q = (Crc.turn (Crc.added l) at' mask 16).1 := ⟨_, rfl⟩
  obtain ⟨T, hT⟩ : ∃ T, T = (Crc.turn (Crc.added l) at' mask 16).2 := ⟨_, rfl⟩
  simp only [← hq, ← hT] at T1
  rw [← hq] at hql
  have C1 := fun A1 c1 w1 h => cright_any A1 (n + 2) c1 q w1 h
  have K : Crc.right q = !T := by
    have h1 := Crc.right_iff q (by omega)
    have h2 := Crc.right_iff (Crc.added l) (by omega)
    have h3 := h2.1 (Crc.right_added l)
    have key2 : Crc.reg16 q = Crc.reg16 (Crc.added l) ↔ T = false := by rw [hq, hT]; exact key
    rw [Bool.eq_iff_iff, h1, ← h3, key2]
    cases T <;> simp
  simp only [K] at C1
  have HC := Lib.hid C1
  have HQ := Lib.hid hql
  have HT := Lib.hid T1
  have HA := Lib.hid hal
  clear key hq hT T1 hql C1 hal K
  go_enter Try.func8, Try.ntmps8
  go_wp2_with fail
  refine (cadd_any A n c l w hR (by omega)).mono ?_
  rintro e w1 ⟨A1, c1, rfl, ho, hb⟩
  have hr := ho.rd HA.out (by omega)
  go_wp2_with fail
  refine (HT.out _ _ _ hr).mono ?_
  rintro e w2 ⟨A2, c2, rfl, ho2, hb2⟩
  have hr2 := ho2.rd HQ.out (by omega)
  have hb3 := hb.trans (hb2.mono hb.size)
  go_wp2_with (first
    | (go_at_call 18; refine (HC.out _ _ _ hr2).mono ?_; rintro e w3 ⟨rfl, hb4⟩)
    | (go_at_call 14; refine (awake_any _).mono ?_; rintro e w' ⟨rfl, hb5⟩))
  go_ret
  have hb6 := hb3.trans (hb4.mono hb3.size)
  exact ⟨rfl, hb6.trans (hb5.mono hb6.size)⟩

/-- what is owned stays owned where the memory that was there stays -/
theorem own_below {w w' : World} {B : Nat} {e : TypeId} {size : Nat} {v : Value} {n : Nat} {xs : List Value} (h : w.ownsRow B e size v n xs) (hb : Below w.heap.size w w') : w'.ownsRow B e size v n xs := by
  refine ⟨h.1, ?_⟩
  rcases h.2 with h2 | ⟨g, cap, cur, hv, hg, hh, r⟩
  · exact .inl h2
  · exact .inr ⟨g, cap, cur, hv, hg, by rw [hb.block g (Array.getElem?_eq_some_iff.1 hh).1]; exact hh, r⟩
theorem inv_byte (y : UInt8) : Value.int .u8 ((255 - (y.toNat : Int)) % 256) = bv (255 - y) := by
  have h := y.toNat_lt
  have e : (255 - y).toNat = 255 - y.toNat := by
    rw [UInt8.toNat_sub_of_le]
    · rfl
    · rw [UInt8.le_iff_toNat_le]; simp at h ⊢; omega
  unfold bv
  rw [e]
  congr 1
  simp at h
  omega

set_option maxHeartbeats 2000000 in
/-- CrcAdds -/
theorem adds_law (A D : Option Addr) (n c m d : Nat) (l q : List UInt8) (w : World) (hR : Rd w A n c l) (hQ : Rd w D m d q) (hn : n ≤ 140737488355000) (hm : m ≤ 140737488355000) :
    Calls Try.prog 7 #[.slice A n c, .slice D m d] w fun e w' => e = .returned (.bool true) ∧ Below w.heap.size w w' := by
  have hlen := Lib.hid hR.len
  have hal : Hid ((Crc.added l).length = n + 2) := by show _ = _; simp [Crc.added, hlen.out]
  obtain ⟨i0, hi0, hz0, hz1, hz2⟩ := info_parts elemB.info
  have KR : Hid (Crc.right (Crc.added l) = true) := Crc.right_added l
  obtain ⟨rq, hrq⟩ : ∃ r, r = Crc.right q := ⟨_, rfl⟩
  have KQ : Hid (Crc.right q = rq) := hrq.symm
  clear hrq
  go_enter Try.func7, Try.ntmps7
  go_wp2_with (first
    | (at_make; refine wpList_make_own _ rfl _ _ 23 rfl w.heap.size 5 i0 _ 1 Try.underlying23 hi0 hz0 hz1 _ _ _ (n + 8) rfl rfl (by omega) (by rw [hz2]; omega) (by unfold maxLen; omega) (Nat.le_refl _) ?_; intro w1 hown1 hg1)
    | (at_builtin; refine wpList_app _ rfl elemB (.tmp 11) (.tmp 12) rfl rfl hown1 rfl (hR.stays (Stays.below ((Below.refl _ _).grown hg1 (Nat.le_refl _) (by intro k hk; cases hk)))).src n (by omega) (by omega) hg1.size ?_; intro A1 c1 w2 hown2 hg2 hat2))
  have hb1 : Below w.heap.size w w1 := (Below.refl _ _).grown hg1 (Nat.le_refl _) (by intro k hk; cases hk)
  have hb2 := below_app' hb1 hown1 hg2 (Nat.le_refl _) hb1.size
  have ho2 := OwnB.of hown2 l (by simp)
  clear hown1 hg1 hown2 hg2 hat2 hi0 hz0 hz1 hz2
  refine (cadd_any A1 n c1 l w2 (ho2.rd hlen.out (by omega)) hn).mono ?_
  rintro e w3 ⟨A2, c2, rfl, ho3, hb3⟩
  have hb4 := hb2.trans (hb3.mono hb2.size)
  go_wp2_with fail
  have HG : Hid (∀ g, A1 = some ⟨g, 0, none⟩ → g < w2.heap.size) := fun g hg => by
    subst hg
    exact (ho2.lt g rfl).2
  go_loopw [7] (fun i wr => ∃ k : Nat, k ≤ n ∧ i = .int .i64 k ∧ (∃ x : List UInt8, x.length = n ∧ OwnB wr w.heap.size 5 (.slice A1 n c1) x) ∧ OwnB wr w2.heap.size 5 (.slice A2 (n + 2) c2) (Crc.added l) ∧ Below w.heap.size w wr) (fun i _ => n - (intOf i).toNat)
  case atStart => exact ⟨0, Nat.zero_le _, rfl, ⟨l, hlen.out, own_below ho2 hb3⟩, ho3, hb4⟩
  case round =>
    obtain ⟨k, hk, rfl, ⟨x, hx, hox⟩, hos, hb⟩ := hrel
    by_cases hlt : k < n
    · obtain ⟨g, rfl, hg, hgl⟩ := hox.at_ hx (by omega)
      have hgw := HG.out g rfl
      have hcell := hox.cell hx k hlt
      have hfree := hox.free hx k
      have hst := hox.store hx k (255 - x.getD k 0)
      have hos' := ownsRow_setCell_below hos (a := ⟨g, k, none⟩) hgw (bv (255 - x.getD k 0))
      obtain ⟨y, hy⟩ : ∃ y, y = x.getD k 0 := ⟨_, rfl⟩
      rw [← hy] at hcell hst hos'
      have H1 := Lib.hid hst
      have H2 := Lib.hid hos'
      have HX := Lib.hid hx
      clear hst hos' hx hy
      go_wp2_with fail
      go_roundw
      case rel =>
        rw [inv_byte]
        exact ⟨k + 1, by omega, by go_num, ⟨_, by rw [List.length_set]; exact HX.out, H1.out⟩, H2.out, hb.setCell hg _⟩
      case measure => simp [intOf]; omega
    · obtain rfl : n = k := by omega
      have hs1 := hos.rd hal.out (by omega)
      have hp0 := hR.below hb
      have hq0 := hQ.below hb
      go_wp2_with fail
      refine Free.wp_seq (I := fun w' => Below wr.heap.size wr w') (Gr := fun w1 w2 => Below w1.heap.size w1 w2) (by kernel_rfl) (by kernel_rfl) (Below.refl _ _).drew ?_
      refine Free.Seq.val ?_ (fun _ => Below.refl _ _) (fun a w1 hI hp => ?_) ?_
      rotate_left
      · have e6 := hp.slotV 6 (by kernel_rfl) rfl; simp at e6
        refine ⟨Free.want_none rfl, ?_⟩
        clear hp
        go_simp
        rfl
      refine Free.Seq.val ?_ (fun _ => Below.refl _ _) (fun a w1 hI hp => ?_) ?_
      rotate_left
      · have e30 := hp.backV 0 0 rfl rfl rfl rfl rfl
        have hc := (hs1.below hI).string (P := Try.prog) 23 9 5 Try.underlying23 Try.underlying5 Try.underlying9
        refine ⟨Free.want_none rfl, ?_⟩
        clear hp
        go_simp
        rfl
      refine Free.Seq.val ?_ (fun _ => Below.refl _ _) (fun a w1 hI hp => ?_) ?_
      rotate_left
      · have e0 := hp.slotV 0 (by kernel_rfl) rfl; simp at e0
        refine ⟨Free.want_none rfl, ?_⟩
        clear hp
        go_simp
        rfl
      refine Free.Seq.call (T := fun v w' => ∃ A' c', v = .slice A' (n + 2) c' ∧ Rd w' A' (n + 2) c' (Crc.added l)) (by rintro v w1 w2 ⟨A', c', rfl, hr⟩ hg; exact ⟨_, _, rfl, hr.below hg⟩) (fun a w1 hI hp => ?_) ?_
      · have e32 := hp.backV 2 0 rfl rfl rfl rfl rfl
        refine ⟨Free.want_none rfl, 20, #[.slice A n c], ?_, ?_⟩
        · clear hp
          go_simp
        · refine (radd_any _ _ _ l _ (hp0.below hI) hn).mono ?_
          rintro e w' ⟨A', c', rfl, hown, hb⟩
          exact ⟨_, rfl, ⟨_, _, rfl, hown.rd hal.out (by omega)⟩, hb, hI.trans (hb.mono hI.size)⟩
      refine Free.Seq.val ?_ (fun _ => Below.refl _ _) (fun a w1 hI hp => ?_) ?_
      rotate_left
      · skip
        obtain ⟨A', c', e33, hr⟩ := hp.back 3 0 rfl rfl rfl rfl rfl
        have hc := hr.string (P := Try.prog) 23 9 5 Try.underlying23 Try.underlying5 Try.underlying9
        refine ⟨Free.want_none rfl, ?_⟩
        clear hp
        go_simp
        rfl
      refine Free.Seq.val ?_ (fun _ => Below.refl _ _) (fun a w1 hI hp => ?_) ?_
      rotate_left
      · have e31 := hp.backV 1 3 rfl rfl rfl rfl rfl; have e34 := hp.backV 4 0 rfl rfl rfl rfl rfl
        refine ⟨Free.want_none rfl, ?_⟩
        clear hp
        go_simp
        rfl
      refine Free.Seq.val ?_ (fun _ => Below.refl _ _) (fun a w1 hI hp => ?_) ?_
      rotate_left
      · have e35 := hp.backV 5 0 rfl rfl rfl rfl rfl
        refine ⟨Free.want_none rfl, ?_⟩
        clear hp
        go_simp
        rfl
      refine Free.Seq.val ?_ (fun _ => Below.refl _ _) (fun a w1 hI hp => ?_) ?_
      rotate_left
      · have e36 := hp.backV 6 0 rfl rfl rfl rfl rfl; have e6 := hp.slotV 6 (by kernel_rfl) rfl; simp at e6
        refine ⟨hp.want rfl rfl rfl e36, ?_⟩
        clear hp
        go_simp
        rfl
      refine Free.Seq.call (T := Free.eqF (.bool true)) (fun _ _ _ h _ => h) (fun a w1 hI hp => ?_) ?_
      · have e36 := hp.backV 6 1 rfl rfl rfl rfl rfl; have e37 := hp.backV 7 0 rfl rfl rfl rfl rfl
        refine ⟨hp.want rfl rfl rfl e36, 18, #[.slice A2 (n + 2) c2], ?_, ?_⟩
        · clear hp
          go_simp
        · refine (cright_any _ _ _ _ _ (hs1.below hI)).mono ?_
          rintro e w' ⟨rfl, hb⟩
          exact ⟨_, rfl, by rw [KR.out]; rfl, hb, hI.trans (hb.mono hI.size)⟩
      refine Free.Seq.val ?_ (fun _ => Below.refl _ _) (fun a w1 hI hp => ?_) ?_
      rotate_left
      · have e36 := hp.backV 6 2 rfl rfl rfl rfl rfl; have e38 := hp.backV 8 0 rfl rfl rfl rfl rfl
        refine ⟨Free.want_none rfl, ?_⟩
        clear hp
        go_simp
        rfl
      refine Free.Seq.val ?_ (fun _ => Below.refl _ _) (fun a w1 hI hp => ?_) ?_
      rotate_left
      · have e39 := hp.backV 9 0 rfl rfl rfl rfl rfl
        refine ⟨Free.want_none rfl, ?_⟩
        clear hp
        go_simp
        rfl
      refine Free.Seq.val ?_ (fun _ => Below.refl _ _) (fun a w1 hI hp => ?_) ?_
      rotate_left
      · have e40 := hp.backV 10 0 rfl rfl rfl rfl rfl; have e1 := hp.slotV 1 (by kernel_rfl) rfl; simp at e1
        refine ⟨hp.want rfl rfl rfl e40, ?_⟩
        clear hp
        go_simp
        rfl
      refine Free.Seq.call (T := Free.eqF (.bool rq)) (fun _ _ _ h _ => h) (fun a w1 hI hp => ?_) ?_
      · have e40 := hp.backV 10 1 rfl rfl rfl rfl rfl; have e41 := hp.backV 11 0 rfl rfl rfl rfl rfl
        refine ⟨hp.want rfl rfl rfl e40, 18, #[.slice D m d], ?_, ?_⟩
        · clear hp
          go_simp
        · refine (cright_any _ _ _ _ _ (hq0.below hI)).mono ?_
          rintro e w' ⟨rfl, hb⟩
          exact ⟨_, rfl, by rw [KQ.out]; rfl, hb, hI.trans (hb.mono hI.size)⟩
      refine Free.Seq.val ?_ (fun _ => Below.refl _ _) (fun a w1 hI hp => ?_) ?_
      rotate_left
      · have e40 := hp.backV 10 2 rfl rfl rfl rfl rfl; have e1 := hp.slotV 1 (by kernel_rfl) rfl; simp at e1
        refine ⟨hp.want rfl rfl rfl e40, ?_⟩
        clear hp
        go_simp
        rfl
      refine Free.Seq.call (T := Free.eqF (.bool rq)) (fun _ _ _ h _ => h) (fun a w1 hI hp => ?_) ?_
      · have e40 := hp.backV 10 3 rfl rfl rfl rfl rfl; have e43 := hp.backV 13 0 rfl rfl rfl rfl rfl
        refine ⟨hp.want rfl rfl rfl e40, 21, #[.slice D m d], ?_, ?_⟩
        · clear hp
          go_simp
        · refine (rright_any _ _ _ _ _ (hq0.below hI) hm).mono ?_
          rintro e w' ⟨rfl, hb⟩
          exact ⟨_, rfl, by rw [KQ.out]; rfl, hb, hI.trans (hb.mono hI.size)⟩
      refine Free.Seq.val ?_ (fun _ => Below.refl _ _) (fun a w1 hI hp => ?_) ?_
      rotate_left
      · have e40 := hp.backV 10 4 rfl rfl rfl rfl rfl; have e42 := hp.backV 12 2 rfl rfl rfl rfl rfl; have e44 := hp.backV 14 0 rfl rfl rfl rfl rfl
        refine ⟨hp.want rfl rfl rfl e40, ?_⟩
        clear hp
        go_simp
        rfl
      refine Free.Seq.val ?_ (fun _ => Below.refl _ _) (fun a w1 hI hp => ?_) ?_
      rotate_left
      · have e40 := hp.backV 10 5 rfl rfl rfl rfl rfl; have e45 := hp.backV 15 0 rfl rfl rfl rfl rfl
        refine ⟨Free.want_none rfl, ?_⟩
        clear hp
        go_simp
        rfl
      refine Free.Seq.val ?_ (fun _ => Below.refl _ _) (fun a w1 hI hp => ?_) ?_
      rotate_left
      · have e46 := hp.backV 16 0 rfl rfl rfl rfl rfl
        refine ⟨Free.want_none rfl, ?_⟩
        clear hp
        go_simp
        rfl
      refine Free.Seq.call (T := Free.eqF (.bool true)) (fun _ _ _ h _ => h) (fun a w1 hI hp => ?_) ?_
      · have e47 := hp.backV 17 0 rfl rfl rfl rfl rfl
        refine ⟨hp.want rfl rfl rfl e47, 14, #[], ?_, ?_⟩
        · clear hp
          go_simp
        · refine (awake_any _).mono ?_
          rintro e w' ⟨rfl, hb⟩
          exact ⟨_, rfl, rfl, hb, hI.trans (hb.mono hI.size)⟩
      refine Free.Seq.val ?_ (fun _ => Below.refl _ _) (fun a w1 hI hp => ?_) ?_
      rotate_left
      · have e47 := hp.backV 17 1 rfl rfl rfl rfl rfl; have e48 := hp.backV 18 0 rfl rfl rfl rfl rfl
        refine ⟨Free.want_none rfl, ?_⟩
        clear hp
        go_simp
        rfl
      refine Free.Seq.val ?_ (fun _ => Below.refl _ _) (fun a w1 hI hp => ?_) ?_
      rotate_left
      · have e49 := hp.backV 19 0 rfl rfl rfl rfl rfl
        refine ⟨Free.want_none rfl, ?_⟩
        clear hp
        go_simp
        rfl
      refine Free.Seq.done (by simp) (fun wz hIz => ?_)
      simp only [List.reverse_cons, List.reverse_nil, List.nil_append, List.cons_append, Free.All, Free.eqF, forall_eq]
      rintro x ⟨A9, c9, rfl, _⟩
      simp only [Free.putL, Act.put, List.setIfInBounds_toArray, List.set_cons_zero, List.set_cons_succ]
      go_wp2
      go_ret
      exact ⟨rfl, hb.trans (hIz.mono hb.size)⟩
end Go.Proofs.Ytjmglgoeljpibaa
