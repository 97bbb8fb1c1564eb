/-
  THE WALKS OF THE SUMS, STILL MORE: the reference's Add, Right and Turn; the statements' own helpers.
-/
import Derived.Test.YtjmglgoeljpibaaCrcMade
import Derived.Test.YtjmglgoeljpibaaFree
import Derived.Lib.SlBytesConst
namespace Go.Proofs.Ytjmglgoeljpibaa
open Go.RowKit

theorem wrap_div256 (l : List UInt8) : IntKind.u16.wrap ((Crc.fcs l : Int) / 256) = (Crc.fcs l : Int) / 256 := by
  have : Crc.fcs l ≤ 65535 := by unfold Crc.fcs; omega
  exact IntWalk.u16_in _ ⟨by omega, by omega⟩

set_option maxHeartbeats 400000 in
/-- portageref02.Add -/
theorem radd_any (A : Option Addr) (n c : Nat) (l : List UInt8) (w : World) (hR : Rd w A n c l) (hn : n ≤ 140737488355000) :
    Calls Try.prog 20 #[.slice A n c] w fun e w' => ∃ A' c', e = .returned (.slice A' (n + 2) c') ∧ OwnB w' w.heap.size 5 (.slice A' (n + 2) c') (Crc.added l) ∧ Below w.heap.size w w' := by
  have hbig := hR.big
  have hlen := hR.len
  go_enter Try.func20, Try.ntmps20
  go_wp2_with fail
  refine (rfcs_any _ _ _ l _ hR).mono ?_
  rintro e w' ⟨rfl, rfl⟩
  go_wp2_with (first
    | (at_builtin; refine wpList_app _ rfl elemB (.tmp 7) (.tmp 8) rfl rfl (own_empty _ w.heap.size _ _ 1 (by simp) (by omega)) rfl ((hR.stays (Stays.alloc w _)).src) n (by omega) (by omega) (by simp) ?_; intro A1 c1 w1 hown1 hg1 hat1)
    | (at_builtin; refine wpList_app _ rfl elemB (.tmp 10) (.tmp 17) rfl rfl (hown1.alloc _) rfl (Src.new' w1 _ rfl [_, _] _ 2 1 rfl (by simp [Value.oneCell'])) (n + 2) (by omega) (by omega) (by have := hg1.size; simp at this ⊢; omega) ?_; intro A2 c2 w2 hown2 hg2 hat2))
  go_ret
  have b1 : Below w.heap.size w w1 := below_app' ((Below.refl _ _).alloc (Nat.le_refl _) _) (own_empty _ w.heap.size _ _ 1 (by simp) (by omega)) hg1 (Nat.le_refl _) (by simp)
  exact ⟨_, _, rfl, OwnB.of hown2 _ (by rw [wrap_div256, two_bytes, List.nil_append, ← bs_append]; rfl), below_app' (b1.alloc b1.size _) (hown1.alloc _) hg2 (Nat.le_refl _) (by have := b1.size; simp; omega)⟩

set_option maxHeartbeats 400000 in
/-- portageref02.Right -/
theorem rright_any (A : Option Addr) (n c : Nat) (l : List UInt8) (w : World) (hR : Rd w A n c l) (hn : n ≤ 140737488355000) :
    Calls Try.prog 21 #[.slice A n c] w fun e w' => e = .returned (.bool (Crc.right l)) ∧ Below w.heap.size w w' := by
  have hbig := hR.big
  have hcap := hR.cap
  have hlen := hR.len
  by_cases h2 : 2 ≤ n
  · obtain ⟨m, rfl⟩ : ∃ m, n = m + 2 := ⟨n - 2, by omega⟩
    have hT := hR.take (k := m) (by omega)
    have HR : Hid (Crc.right l = (Crc.added (l.take m) == l)) := by
      show _ = _
      unfold Crc.right
      rw [hlen]
      simp
    have hs := fun w' (h : Rd w' A (m + 2) c l) => h.string (P := Try.prog) 23 9 5 Try.underlying23 Try.underlying5 Try.underlying9
    have h0 : (0 : Int) ≤ (m : Int) := by omega
    have h1 : (2 : Int) ≤ (m : Int) + 2 := by omega
    have h4 : (m : Int) ≤ (c : Int) := by omega
    have hl := Lib.hid hlen; clear hlen
    have h5 : IntKind.i64.wrap (m : Int) = (m : Int) := IntWalk.i64_in _ ⟨by omega, by omega⟩
    go_enter Try.func21, Try.ntmps21
    go_wp2_with fail
    refine Free.wp_seq (I := fun w' => Below w.heap.size w w') (Gr := fun w1 w2 => Below w1.heap.size w1 w2) (by kernel_rfl) (by kernel_rfl) (Below.refl _ _).drew ?_
    refine Free.Seq.val ?_ (fun _ => Below.refl _ _) (fun a w1 hI hp => ?_) ?_
    rotate_left
    · have e0 := hp.slotV 0 (by kernel_rfl) rfl; simp at e0
      refine ⟨Free.want_none rfl, ?_⟩
      clear hp
      go_simp
      rfl
    refine Free.Seq.val ?_ (fun _ => Below.refl _ _) (fun a w1 hI hp => ?_) ?_
    rotate_left
    · have e3 := hp.backV 0 0 rfl rfl rfl rfl rfl
      refine ⟨Free.want_none rfl, ?_⟩
      clear hp
      go_simp
      rfl
    refine Free.Seq.val ?_ (fun _ => Below.refl _ _) (fun a w1 hI hp => ?_) ?_
    rotate_left
    · have e4 := hp.backV 1 0 rfl rfl rfl rfl rfl
      refine ⟨Free.want_none rfl, ?_⟩
      clear hp
      go_simp
      rfl
    refine Free.Seq.val ?_ (fun _ => Below.refl _ _) (fun a w1 hI hp => ?_) ?_
    rotate_left
    · have e5 := hp.backV 2 0 rfl rfl rfl rfl rfl
      refine ⟨Free.want_none rfl, ?_⟩
      clear hp
      go_simp
      rfl
    refine Free.Seq.val ?_ (fun _ => Below.refl _ _) (fun a w1 hI hp => ?_) ?_
    rotate_left
    · have e6 := hp.backV 3 0 rfl rfl rfl rfl rfl; have e0 := hp.slotV 0 (by kernel_rfl) rfl; simp at e0
      refine ⟨hp.want rfl rfl rfl e6, ?_⟩
      clear hp
      go_simp
      rfl
    refine Free.Seq.val ?_ (fun _ => Below.refl _ _) (fun a w1 hI hp => ?_) ?_
    rotate_left
    · have e6 := hp.backV 3 1 rfl rfl rfl rfl rfl; have e0 := hp.slotV 0 (by kernel_rfl) rfl; simp at e0
      refine ⟨hp.want rfl rfl rfl e6, ?_⟩
      clear hp
      go_simp
      rfl
    refine Free.Seq.val ?_ (fun _ => Below.refl _ _) (fun a w1 hI hp => ?_) ?_
    rotate_left
    · have e6 := hp.backV 3 2 rfl rfl rfl rfl rfl; have e8 := hp.backV 5 0 rfl rfl rfl rfl rfl
      refine ⟨hp.want rfl rfl rfl e6, ?_⟩
      clear hp
      go_simp
      rfl
    refine Free.Seq.val ?_ (fun _ => Below.refl _ _) (fun a w1 hI hp => ?_) ?_
    rotate_left
    · have e6 := hp.backV 3 3 rfl rfl rfl rfl rfl; have e9 := hp.backV 6 0 rfl rfl rfl rfl rfl
      refine ⟨hp.want rfl rfl rfl e6, ?_⟩
      clear hp
      go_simp
      rfl
    refine Free.Seq.val ?_ (fun _ => Below.refl _ _) (fun a w1 hI hp => ?_) ?_
    rotate_left
    · have e6 := hp.backV 3 4 rfl rfl rfl rfl rfl; have e7 := hp.backV 4 3 rfl rfl rfl rfl rfl; have e10 := hp.backV 7 0 rfl rfl rfl rfl rfl
      refine ⟨hp.want rfl rfl rfl e6, ?_⟩
      clear hp
      go_simp
      rfl
    refine Free.Seq.call (T := fun v w' => ∃ A' c', v = .slice A' (m + 2) c' ∧ Rd w' A' (m + 2) c' (Crc.added (l.take m))) (by rintro v w1 w2 ⟨A', c', rfl, hr⟩ hg; exact ⟨_, _, rfl, hr.below hg⟩) (fun a w1 hI hp => ?_) ?_
    · have e6 := hp.backV 3 5 rfl rfl rfl rfl rfl; have e11 := hp.backV 8 0 rfl rfl rfl rfl rfl
      refine ⟨hp.want rfl rfl rfl e6, 20, #[.slice A m c], ?_, ?_⟩
      · go_simp
      · refine (radd_any _ _ _ (l.take m) _ (hT.below hI) (by omega)).mono ?_
        rintro e w' ⟨A', c', rfl, hown, hb⟩
        exact ⟨_, rfl, ⟨_, _, rfl, hown.rd (by have := hl.out; simp [Crc.added]; omega) (by omega)⟩, hb, hI.trans (hb.mono hI.size)⟩
    refine Free.Seq.val ?_ (fun _ => Below.refl _ _) (fun a w1 hI hp => ?_) ?_
    rotate_left
    · have e6 := hp.backV 3 6 rfl rfl rfl rfl rfl
      obtain ⟨A', c', e12, hr⟩ := hp.back 9 0 rfl rfl rfl rfl rfl
      have hc := hr.string (P := Try.prog) 23 9 5 Try.underlying23 Try.underlying5 Try.underlying9
      refine ⟨hp.want rfl rfl rfl e6, ?_⟩
      clear hp
      go_simp
      rfl
    refine Free.Seq.val ?_ (fun _ => Below.refl _ _) (fun a w1 hI hp => ?_) ?_
    rotate_left
    · have e6 := hp.backV 3 7 rfl rfl rfl rfl rfl; have e0 := hp.slotV 0 (by kernel_rfl) rfl; simp at e0
      refine ⟨hp.want rfl rfl rfl e6, ?_⟩
      clear hp
      go_simp
      rfl
    refine Free.Seq.val ?_ (fun _ => Below.refl _ _) (fun a w1 hI hp => ?_) ?_
    rotate_left
    · have e6 := hp.backV 3 8 rfl rfl rfl rfl rfl; have e14 := hp.backV 11 0 rfl rfl rfl rfl rfl
      have hc := hs w1 (hR.below hI)
      refine ⟨hp.want rfl rfl rfl e6, ?_⟩
      clear hp
      go_simp
      rfl
    refine Free.Seq.val ?_ (fun _ => Below.refl _ _) (fun a w1 hI hp => ?_) ?_
    rotate_left
    · have e6 := hp.backV 3 9 rfl rfl rfl rfl rfl; have e13 := hp.backV 10 2 rfl rfl rfl rfl rfl; have e15 := hp.backV 12 0 rfl rfl rfl rfl rfl
      refine ⟨hp.want rfl rfl rfl e6, ?_⟩
      clear hp
      go_simp
      rfl
    refine Free.Seq.val ?_ (fun _ => Below.refl _ _) (fun a w1 hI hp => ?_) ?_
    rotate_left
    · have e6 := hp.backV 3 10 rfl rfl rfl rfl rfl; have e16 := hp.backV 13 0 rfl rfl rfl rfl rfl
      refine ⟨Free.want_none rfl, ?_⟩
      clear hp
      go_simp
      rfl
    refine Free.Seq.val ?_ (fun _ => Below.refl _ _) (fun a w1 hI hp => ?_) ?_
    rotate_left
    · have e17 := hp.backV 14 0 rfl rfl rfl rfl rfl
      refine ⟨Free.want_none rfl, ?_⟩
      clear hp
      go_simp
      rfl
    refine Free.Seq.done (by simp) (fun wz hIz => ?_)
    simp only [List.reverse_cons, List.reverse_nil, List.nil_append, List.cons_append, Free.All, Free.eqF, forall_eq]
    rintro v ⟨A', c', rfl, hr⟩
    simp only [Free.putL, Act.put, List.setIfInBounds_toArray, List.set_cons_zero, List.set_cons_succ]
    go_wp2
    go_ret
    exact ⟨ret_bool HR.out.symm, hIz⟩
  · have hlt : (n : Int) < 2 := by omega
    have hd2 : decide ((2 : Int) ≤ (n : Int)) = false := by simp; omega
    have hr : Crc.right l = false := by unfold Crc.right; simp; omega
    rw [hr]
    clear hlen hr h2
    go_enter Try.func21, Try.ntmps21
    go_wp2_with fail
    go_quiet (fail)
    go_wp2
    go_ret
    exact ⟨rfl, below_drewN (Below.refl _ _) _⟩

/-- a store into bytes of the call's own -/
theorem OwnB.store {w : World} {B : Nat} {e : TypeId} {g n c : Nat} {l : List UInt8} (h : OwnB w B e (.slice (some ⟨g, 0, none⟩) n c) l) (hn : l.length = n) (i : Nat) (x : UInt8) : OwnB (w.setCell ⟨g, i, none⟩ (bv x)) B e (.slice (some ⟨g, 0, none⟩) n c) (l.set i x) := by
  subst hn
  have := (World.ownsRow.stored h i (bv x)).1
  unfold OwnB
  rw [List.length_set]
  have e : (bs l).set i (bv x) = bs (l.set i x) := by simp [bs, List.map_set]
  rw [← e]
  exact this
theorem OwnB.at_ {w : World} {B : Nat} {e : TypeId} {A : Option Addr} {n c : Nat} {l : List UInt8} (h : OwnB w B e (.slice A n c) l) (hn : l.length = n) (hp : 0 < n) :
    ∃ g, A = some ⟨g, 0, none⟩ ∧ B ≤ g ∧ g < w.heap.size := by
  subst hn
  obtain ⟨g, cap, hv, hb, hlt⟩ := h.form hp
  injection hv with h1
  exact ⟨g, h1, hb, hlt⟩
theorem OwnB.cell {w : World} {B : Nat} {e : TypeId} {g n c : Nat} {l : List UInt8} (h : OwnB w B e (.slice (some ⟨g, 0, none⟩) n c) l) (hn : l.length = n) (i : Nat) (hi : i < n) : w.cell? ⟨g, i, none⟩ = some (bv (l.getD i 0)) := by
  subst hn
  have := World.ownsRow.cellAt h i (by omega)
  rw [this]
  simp [bs, hi]
theorem OwnB.free {w : World} {B : Nat} {e : TypeId} {g n c : Nat} {l : List UInt8} (h : OwnB w B e (.slice (some ⟨g, 0, none⟩) n c) l) (hn : l.length = n) (i : Nat) : w.frozen? ⟨g, i, none⟩ = false := by
  subst hn
  exact World.ownsRow.frozenAt h i

theorem flip_val (x : UInt8) (r : Nat) (hr : r < 8) : Value.int .u8 (bits .xor .u8 (x.toNat : Int) (2 ^ r % 256)) = bv (x ^^^ Crc.bit r) := by
  have hx := x.toNat_lt
  have h2 : 2 ^ r < 256 := Nat.lt_of_lt_of_le (Nat.pow_lt_pow_right (by omega) hr) (by decide)
  have e : ((2 : Int) ^ r % 256) = ((2 ^ r : Nat) : Int) := by
    have : ((2 : Int) ^ r) = ((2 ^ r : Nat) : Int) := by simp
    rw [this]
    generalize 2 ^ r = y at h2 ⊢
    omega
  rw [e, u8_xor_nat _ _ (by simpa using hx) h2]
  simp [bv, UInt8.toNat_xor, Crc.bit_toNat r hr]

theorem hit_bit (mask k : Nat) : (((mask : Int) / 2 ^ k).tmod 2 == 1) = (mask / 2 ^ k % 2 == 1) := by
  have e : ((mask : Int) / 2 ^ k) = ((mask / 2 ^ k : Nat) : Int) := by simp
  rw [e, Int.tmod_eq_emod_of_nonneg (Int.natCast_nonneg _), Bool.eq_iff_iff]
  simp
  omega

set_option maxHeartbeats 1000000 in
/-- portageref02.Turn -/
theorem turn_any (A : Option Addr) (n c : Nat) (l : List UInt8) (at' : Int) (mask size : Nat) (S : Int) (w : World) (hR : Rd w A n c l) (hn : n ≤ 140737488355000) (_hm : mask < 4294967296) (hs : size ≤ 32) (hS : S = (size : Int)) :
    Calls Try.prog 17 #[.slice A n c, .int .i64 at', .int .u32 (mask : Int), .int .i64 S] w fun e w' => ∃ A' c', e = .returned (.tuple #[.slice A' n c', .bool (Crc.turn l at' mask size).2]) ∧
      OwnB w' w.heap.size 5 (.slice A' n c') (Crc.turn l at' mask size).1 ∧ Below w.heap.size w w' := by
  subst hS
  have hbig := hR.big
  have hlen := Lib.hid hR.len
  by_cases h : at' < 0 ∨ 8 * (n : Int) ≤ at'
  · have HT : Hid (Crc.turn l at' mask size = (l, false)) := by
      show _ = _
      unfold Crc.turn
      rw [if_pos (by rw [hlen.out]; exact h)]
    rcases h with h | h
    · go_enter Try.func17, Try.ntmps17
      go_wp2_with (at_builtin; refine wpList_app _ rfl elemB (.tmp 13) (.tmp 14) rfl rfl (own_empty _ w.heap.size _ _ 1 (by simp) (by omega)) rfl ((hR.stays (Stays.alloc w _)).src) n (by omega) (by omega) (by simp) ?_; intro A1 c1 w1 hown1 hg1 hat1)
      go_ret2
      rw [HT.out]
      exact ⟨_, _, rfl, OwnB.of hown1 _ (by simp), below_app' ((Below.refl _ _).alloc (Nat.le_refl _) _) (own_empty _ w.heap.size _ _ 1 (by simp) (by omega)) hg1 (Nat.le_refl _) (by simp)⟩
    · by_cases h0 : at' < 0
      · omega
      · go_enter Try.func17, Try.ntmps17
        go_wp2_with (at_builtin; refine wpList_app _ rfl elemB (.tmp 13) (.tmp 14) rfl rfl (own_empty _ w.heap.size _ _ 1 (by simp) (by omega)) rfl ((hR.stays (Stays.alloc w _)).src) n (by omega) (by omega) (by simp) ?_; intro A1 c1 w1 hown1 hg1 hat1)
        go_ret2
        rw [HT.out]
        exact ⟨_, _, rfl, OwnB.of hown1 _ (by simp), below_app' ((Below.refl _ _).alloc (Nat.le_refl _) _) (own_empty _ w.heap.size _ _ 1 (by simp) (by omega)) hg1 (Nat.le_refl _) (by simp)⟩
  · obtain ⟨off, rfl⟩ := Int.eq_ofNat_of_zero_le (show 0 ≤ at' by omega)
    have h1 : (off : Int) < 8 * (n : Int) := by omega
    have h2 : (0 : Int) ≤ (off : Int) := by omega
    have HT : Hid (Crc.turn l off mask size = Crc.turns off mask l size) := by
      show _ = _
      unfold Crc.turn
      rw [if_neg (by rw [hlen.out]; exact h)]
      rfl
    clear h
    go_enter Try.func17, Try.ntmps17
    go_wp2_with (at_builtin; refine wpList_app _ rfl elemB (.tmp 13) (.tmp 14) rfl rfl (own_empty _ w.heap.size _ _ 1 (by simp) (by omega)) rfl ((hR.stays (Stays.alloc w _)).src) n (by omega) (by omega) (by simp) ?_; intro A1 c1 w1 hown1 hg1 hat1)
    have hb1 := below_app' ((Below.refl _ _).alloc (Nat.le_refl _) _) (own_empty _ w.heap.size _ _ 1 (by simp) (by omega)) hg1 (Nat.le_refl _) (by simp)
    have ho1 := OwnB.of hown1 l (by simp)
    clear hown1 hg1 hat1
    go_loopw [11, 12] (fun t i wr => ∃ k : Nat, k ≤ size ∧ i = .int .i64 k ∧ t = .bool (Crc.turns off mask l k).2 ∧ OwnB wr w.heap.size 5 (.slice A1 n c1) (Crc.turns off mask l k).1 ∧ Below w.heap.size w wr) (fun _ i _ => size - (intOf i).toNat)
    case atStart => exact ⟨0, Nat.zero_le _, rfl, rfl, ho1, hb1⟩
    case round =>
      obtain ⟨k, hk, rfl, rfl, ho, hb⟩ := hrel
      by_cases hlt : k < size
      · have hLn : (Crc.turns off mask l k).1.length = n := by rw [Crc.turns_len, hlen.out]
        have HN : Hid (Crc.turns off mask l (k + 1) = if Crc.hits n off k mask then ((Crc.turns off mask l k).1.set ((off + k) / 8) ((Crc.turns off mask l k).1.getD ((off + k) / 8) 0 ^^^ Crc.bit ((off + k) % 8)), true) else Crc.turns off mask l k) := by
          show _ = _
          rw [← hlen.out]
          rfl
        obtain ⟨L, hL⟩ : ∃ L, L = (Crc.turns off mask l k).1 := ⟨_, rfl⟩
        obtain ⟨T, hT⟩ : ∃ T, T = (Crc.turns off mask l k).2 := ⟨_, rfl⟩
        have HP : Hid (Crc.turns off mask l k = (L, T)) := by show _ = _; rw [hL, hT]
        rw [← hL] at ho hLn
        rw [← hT]
        rw [← hL] at HN
        clear hL hT
        obtain ⟨g, rfl, hg, hgl⟩ := ho.at_ hLn (by omega)
        by_cases hh : Crc.hits n off k mask
        · have ht : (((mask : Int) / 2 ^ k).tmod 2 == 1) = true := by rw [hit_bit]; simpa using hh.1
          have hi : (off + k) / 8 < n := by have := hh.2; omega
          have hin : (off : Int) + (k : Int) < 8 * (n : Int) := by have := hh.2; omega
          have hcell := ho.cell hLn _ hi
          have hfree := ho.free hLn ((off + k) / 8)
          obtain ⟨x, hx⟩ : ∃ x, x = L.getD ((off + k) / 8) 0 := ⟨_, rfl⟩
          rw [← hx] at hcell HN
          clear hx
          have HN2 : Hid (Crc.turns off mask l (k + 1) = (L.set ((off + k) / 8) (x ^^^ Crc.bit ((off + k) % 8)), true)) := by show _ = _; rw [HN.out, if_pos hh]
          clear HN hh
          go_wp2_with fail
          go_roundw
          case rel =>
            refine ⟨k + 1, by omega, by go_num, by rw [HN2.out], ?_, ?_⟩
            · rw [HN2.out]
              rw [flip_val x _ (by omega)]
              exact ho.store hLn _ _
            · exact hb.setCell hg _
          case measure => simp [intOf]; omega
        · have HN2 : Hid (Crc.turns off mask l (k + 1) = (L, T)) := by show _ = _; rw [HN.out, if_neg hh, HP.out]
          by_cases hb2 : mask / 2 ^ k % 2 = 1
          · have ht : (((mask : Int) / 2 ^ k).tmod 2 == 1) = true := by rw [hit_bit]; simpa using hb2
            have hin : ¬ ((off : Int) + (k : Int) < 8 * (n : Int)) := fun h => hh ⟨hb2, by omega⟩
            clear hb2 HN hh
            go_wp2_with fail
            go_roundw
            case rel => exact ⟨k + 1, by omega, by go_num, by rw [HN2.out], by rw [HN2.out]; exact ho, hb⟩
            case measure => simp [intOf]; omega
          · have ht : (((mask : Int) / 2 ^ k).tmod 2 == 1) = false := by rw [hit_bit]; simpa using hb2
            clear hb2 HN hh
            go_wp2_with fail
            go_roundw
            case rel => exact ⟨k + 1, by omega, by go_num, by rw [HN2.out], by rw [HN2.out]; exact ho, hb⟩
            case measure => simp [intOf]; omega
      · obtain rfl : k = size := by omega
        go_wp2
        go_ret2
        rw [HT.out]
        exact ⟨_, _, rfl, ho, hb⟩

set_option maxHeartbeats 1000000 in
theorem together_any (A : Option Addr) (n c : Nat) (ls : List (List UInt8)) (w : World) (hR : RdL w A n c ls) (ht : ls.flatten.length ≤ 140737488355000) :
    Calls Try.prog 9 #[.slice A n c] w fun e w' => ∃ v, e = .returned v ∧ OwnB w' w.heap.size 5 v ls.flatten ∧ Below w.heap.size w w' := by
  have hbig := hR.big
  go_enter Try.func9, Try.ntmps9
  go_wp2_with fail
  go_loopw [3, 4] (fun u i wr => ∃ k : Nat, k ≤ n ∧ i = .int .i64 k ∧ OwnB wr w.heap.size 5 u (ls.take k).flatten ∧ Below w.heap.size w wr) (fun _ i _ => n - (intOf i).toNat)
  case atStart => exact ⟨0, Nat.zero_le _, rfl, World.ownsRow_nil _ _ _ _, Below.refl _ _⟩
  case round =>
    obtain ⟨k, hk, rfl, ho, hb⟩ := hrel
    by_cases hlt : k < n
    · obtain ⟨b, off, l, A', n', c', rfl, hb', hl, hcell, hr⟩ := (hR.below hb).at' hlt
      have hlen : (ls.take k).flatten.length + n' ≤ 140737488355000 := by
        have h1 : (ls.take (k + 1)).flatten.length ≤ ls.flatten.length := by
          have := congrArg List.flatten (List.take_append_drop (k + 1) ls)
          rw [← this, List.flatten_append, List.length_append]
          omega
        rw [flat_take _ _ _ hl, List.length_append, hr.len] at h1
        omega
      obtain ⟨X, hX⟩ : ∃ X, X = (ls.take k).flatten := ⟨_, rfl⟩
      have HX : Hid ((ls.take (k + 1)).flatten = X ++ l) := by show _ = _; rw [flat_take _ _ _ hl, hX]
      rw [← hX] at ho hlen
      clear hl hX
      go_wp2_with (at_builtin; refine wpList_app _ rfl elemB (.tmp 11) (.tmp 15) rfl rfl ho rfl hr.src (X.length + n') rfl (by omega) hb.size ?_; intro A1 c1 w1 hown1 hg1 hat1)
      go_roundw
      case rel => exact ⟨k + 1, by omega, by go_num, OwnB.of hown1 _ (by rw [HX.out, bs_append]), below_app' hb ho hg1 (Nat.le_refl _) hb.size⟩
      case measure => simp [intOf]; omega
    · obtain rfl : k = n := by omega
      go_wp2
      go_ret
      exact ⟨_, rfl, by have := ho; rwa [List.take_of_length_le (by rw [hR.len]; exact Nat.le_refl _)] at this, hb⟩

def nine : List UInt8 := [49, 50, 51, 52, 53, 54, 55, 56, 57]
def l1 : List UInt8 := nine.take 4
def l2 : List UInt8 := nine.drop 4
def l3 : List UInt8 := nine.take 2
def l4 : List UInt8 := nine.drop 2
/-- bytes that a literal has laid -/
theorem rd_lit (w : World) (l : List UInt8) (n : Nat) (hn : l.length = n) (hb : n ≤ 281474976710656) (t : TypeId) (fr : Nat × Nat) : Rd (w.alloc (.cells (bs l).toArray t fr)) (some ⟨w.heap.size, 0, none⟩) n n l :=
  ⟨hn, Nat.le_refl _, hb, fun _ => ⟨_, _, rfl, by simp, fun j x hx => by
    rw [Nat.zero_add, World.cell?_alloc_mark]
    simp [bs, hx]⟩⟩

set_option maxHeartbeats 1000000 in
theorem awake_any (w : World) : Calls Try.prog 14 #[] w fun e w' => e = .returned (.bool true) ∧ Below w.heap.size w w' := by
  have kc := fun (w : World) (C : Array Value) (n c : Nat) => Lib.run_convert_bytes_const (P := Try.prog) w 23 5 C n c Try.underlying23 Try.underlying5
  have hR : Rd (w.alloc (.cells (bs nine).toArray 5 (9, 10))) (some ⟨w.heap.size, 0, none⟩) 9 9 nine := rd_lit w nine 9 rfl (by omega) _ _
  have h1 : Rd (w.alloc (.cells (bs nine).toArray 5 (9, 10))) (some ⟨w.heap.size, 0, none⟩) 4 9 l1 := hR.take (k := 4) (by omega)
  have h2 : Rd (w.alloc (.cells (bs nine).toArray 5 (9, 10))) (some ⟨w.heap.size, 4, none⟩) 5 5 l2 := by have := hR.drop (k := 4) (by omega); simpa [Addr.add, l2] using this
  have h3 : Rd (w.alloc (.cells (bs nine).toArray 5 (9, 10))) (some ⟨w.heap.size, 0, none⟩) 2 9 l3 := hR.take (k := 2) (by omega)
  have h4 : Rd (w.alloc (.cells (bs nine).toArray 5 (9, 10))) (some ⟨w.heap.size, 2, none⟩) 7 7 l4 := by have := hR.drop (k := 2) (by omega); simpa [Addr.add, l4] using this
  have K1 : Hid (Crc.fcs [l1, l2].flatten = 36974) := by show _ = _; decide +kernel
  have K2 : Hid (Crc.sum [l3, l4].flatten = 3421780262) := by show _ = _; decide +kernel
  have hb0 : Below w.heap.size w (w.alloc (.cells (bs nine).toArray 5 (9, 10))) := (Below.refl _ _).alloc (Nat.le_refl _) _
  obtain ⟨w0, hw0⟩ : ∃ w0, w0 = w.alloc (.cells (bs nine).toArray 5 (9, 10)) := ⟨_, rfl⟩
  rw [← hw0] at h1 h2 h3 h4 hb0
  have HW := Lib.hid hw0
  clear hR hw0
  go_enter Try.func14, Try.ntmps14
  go_wp2_with fail
  rw [show (w.alloc (.cells #[.int .u8 49, .int .u8 50, .int .u8 51, .int .u8 52, .int .u8 53, .int .u8 54, .int .u8 55, .int .u8 56, .int .u8 57] 5 (9, 10))) = w0 from HW.out.symm]
  refine Free.wp_seq (I := fun w' => Below w0.heap.size w0 w') (Gr := fun w1 w2 => Below w1.heap.size w1 w2) (by kernel_rfl) (by kernel_rfl) (Below.refl _ _).drew ?_
  refine Free.Seq.val ?_ (fun _ => Below.refl _ _) (fun a w1 hI hp => ?_) ?_
  rotate_left
  · have e1 := hp.slotV 1 (by kernel_rfl) rfl; simp at e1
    refine ⟨Free.want_none rfl, ?_⟩
    clear hp
    go_simp
    rfl
  refine Free.Seq.val ?_ (fun _ => Below.refl _ _) (fun a w1 hI hp => ?_) ?_
  rotate_left
  · have e4 := hp.backV 0 0 rfl rfl rfl rfl rfl
    refine ⟨Free.want_none rfl, ?_⟩
    clear hp
    go_simp
    rfl
  refine Free.Seq.val ?_ (fun _ => Below.refl _ _) (fun a w1 hI hp => ?_) ?_
  rotate_left
  · have e1 := hp.slotV 1 (by kernel_rfl) rfl; simp at e1
    refine ⟨Free.want_none rfl, ?_⟩
    clear hp
    go_simp
    rfl
  refine Free.Seq.val ?_ (fun _ => Below.refl _ _) (fun a w1 hI hp => ?_) ?_
  rotate_left
  · have e6 := hp.backV 2 0 rfl rfl rfl rfl rfl
    refine ⟨Free.want_none rfl, ?_⟩
    clear hp
    go_simp
    rfl
  refine Free.Seq.op (T := fun v w' => ∃ A, v = .slice A 2 2 ∧ RdL w' A 2 2 [l1, l2]) (by rintro v w1 w2 ⟨A, rfl, hr⟩ hg; exact ⟨_, rfl, hr.below hg⟩) (fun a w1 hI hp => ?_) ?_
  · have e5 := hp.backV 1 2 rfl rfl rfl rfl rfl; have e7 := hp.backV 3 0 rfl rfl rfl rfl rfl
    refine ⟨Free.want_none rfl, .slice (some ⟨w1.heap.size, 0, none⟩) 2 2, w1.alloc (.cells #[_, _] 23), ?_, ⟨_, rfl, RdL.pair (h1.below hI) (h2.below hI) _⟩, ((Below.refl _ _).alloc (Nat.le_refl _) _), hI.alloc hI.size _⟩
    clear hp
    go_simp
  refine Free.Seq.call (T := Free.eqF (.int .u16 36974)) (fun _ _ _ h _ => h) (fun a w1 hI hp => ?_) ?_
  · skip
    obtain ⟨A, e8, hr⟩ := hp.back 4 0 rfl rfl rfl rfl rfl
    refine ⟨Free.want_none rfl, 10, #[.slice A 2 2], ?_, ?_⟩
    · clear hp
      go_simp
    · refine (fcs_any _ _ _ _ _ hr).mono ?_
      rintro e w' ⟨rfl, rfl⟩
      exact ⟨_, rfl, by rw [K1.out]; rfl, Below.refl _ _, hI⟩
  refine Free.Seq.val ?_ (fun _ => Below.refl _ _) (fun a w1 hI hp => ?_) ?_
  rotate_left
  · have e9 := hp.backV 5 0 rfl rfl rfl rfl rfl
    refine ⟨Free.want_none rfl, ?_⟩
    clear hp
    go_simp
    rfl
  refine Free.Seq.val ?_ (fun _ => Below.refl _ _) (fun a w1 hI hp => ?_) ?_
  rotate_left
  · have e10 := hp.backV 6 0 rfl rfl rfl rfl rfl
    refine ⟨Free.want_none rfl, ?_⟩
    clear hp
    go_simp
    rfl
  refine Free.Seq.val ?_ (fun _ => Below.refl _ _) (fun a w1 hI hp => ?_) ?_
  rotate_left
  · have e11 := hp.backV 7 0 rfl rfl rfl rfl rfl; have e1 := hp.slotV 1 (by kernel_rfl) rfl; simp at e1
    refine ⟨hp.want rfl rfl rfl e11, ?_⟩
    clear hp
    go_simp
    rfl
  refine Free.Seq.val ?_ (fun _ => Below.refl _ _) (fun a w1 hI hp => ?_) ?_
  rotate_left
  · have e11 := hp.backV 7 1 rfl rfl rfl rfl rfl; have e12 := hp.backV 8 0 rfl rfl rfl rfl rfl
    refine ⟨hp.want rfl rfl rfl e11, ?_⟩
    clear hp
    go_simp
    rfl
  refine Free.Seq.val ?_ (fun _ => Below.refl _ _) (fun a w1 hI hp => ?_) ?_
  rotate_left
  · have e11 := hp.backV 7 2 rfl rfl rfl rfl rfl; have e1 := hp.slotV 1 (by kernel_rfl) rfl; simp at e1
    refine ⟨hp.want rfl rfl rfl e11, ?_⟩
    clear hp
    go_simp
    rfl
  refine Free.Seq.val ?_ (fun _ => Below.refl _ _) (fun a w1 hI hp => ?_) ?_
  rotate_left
  · have e11 := hp.backV 7 3 rfl rfl rfl rfl rfl; have e14 := hp.backV 10 0 rfl rfl rfl rfl rfl
    refine ⟨hp.want rfl rfl rfl e11, ?_⟩
    clear hp
    go_simp
    rfl
  refine Free.Seq.op (T := fun v w' => ∃ A, v = .slice A 2 2 ∧ RdL w' A 2 2 [l3, l4]) (by rintro v w1 w2 ⟨A, rfl, hr⟩ hg; exact ⟨_, rfl, hr.below hg⟩) (fun a w1 hI hp => ?_) ?_
  · have e11 := hp.backV 7 4 rfl rfl rfl rfl rfl; have e13 := hp.backV 9 2 rfl rfl rfl rfl rfl; have e15 := hp.backV 11 0 rfl rfl rfl rfl rfl
    refine ⟨hp.want rfl rfl rfl e11, .slice (some ⟨w1.heap.size, 0, none⟩) 2 2, w1.alloc (.cells #[_, _] 23), ?_, ⟨_, rfl, RdL.pair (h3.below hI) (h4.below hI) _⟩, ((Below.refl _ _).alloc (Nat.le_refl _) _), hI.alloc hI.size _⟩
    clear hp
    go_simp
  refine Free.Seq.call (T := Free.eqF (.int .u32 3421780262)) (fun _ _ _ h _ => h) (fun a w1 hI hp => ?_) ?_
  · have e11 := hp.backV 7 5 rfl rfl rfl rfl rfl
    obtain ⟨A, e16, hr⟩ := hp.back 12 0 rfl rfl rfl rfl rfl
    refine ⟨hp.want rfl rfl rfl e11, 12, #[.slice A 2 2], ?_, ?_⟩
    · clear hp
      go_simp
    · refine (sum_any _ _ _ _ _ hr).mono ?_
      rintro e w' ⟨rfl, rfl⟩
      exact ⟨_, rfl, by rw [K2.out]; rfl, Below.refl _ _, hI⟩
  refine Free.Seq.val ?_ (fun _ => Below.refl _ _) (fun a w1 hI hp => ?_) ?_
  rotate_left
  · have e11 := hp.backV 7 6 rfl rfl rfl rfl rfl; have e17 := hp.backV 13 0 rfl rfl rfl rfl rfl
    refine ⟨hp.want rfl rfl rfl e11, ?_⟩
    clear hp
    go_simp
    rfl
  refine Free.Seq.val ?_ (fun _ => Below.refl _ _) (fun a w1 hI hp => ?_) ?_
  rotate_left
  · have e11 := hp.backV 7 7 rfl rfl rfl rfl rfl; have e18 := hp.backV 14 0 rfl rfl rfl rfl rfl
    refine ⟨Free.want_none rfl, ?_⟩
    clear hp
    go_simp
    rfl
  refine Free.Seq.val ?_ (fun _ => Below.refl _ _) (fun a w1 hI hp => ?_) ?_
  rotate_left
  · have e19 := hp.backV 15 0 rfl rfl rfl rfl rfl
    refine ⟨Free.want_none rfl, ?_⟩
    clear hp
    go_simp
    rfl
  refine Free.Seq.done (by simp) (fun wz hIz => ?_)
  simp only [List.reverse_cons, List.reverse_nil, List.nil_append, List.cons_append, Free.All, Free.eqF, forall_eq]
  rintro x ⟨A8, rfl, _⟩ y ⟨A16, rfl, _⟩
  simp only [Free.putL, Act.put, List.setIfInBounds_toArray, List.set_cons_zero, List.set_cons_succ]
  go_wp2
  go_ret
  exact ⟨rfl, hb0.trans (hIz.mono hb0.size)⟩
end Go.Proofs.Ytjmglgoeljpibaa
