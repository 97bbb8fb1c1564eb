/-
  THE WALKS OF THE SUMS, STILL MORE: the reference's Add, Right and Turn; the statements' own helpers.
-/
import Derived.Test.YtpfilomckijmkaaCrcMade
import Derived.Test.YtpfilomckijmkaaFree
import Derived.Lib.SlBytesConst
namespace Go.Proofs.Ytpfilomckijmkaa
open Go.RowKit

theorem wrap_div256 (l : List UInt8) : IntKind.u16.wrap ((Crc.fcs l : Int) / 256) = (Crc.fcs l : Int) / 256 := by
  have : Crc.fcs l ≤ 65535 := by unfold Crc.fcs; omega
  exact IntWalk.u16_in _ ⟨by omega, by omega⟩

set_option maxHeartbeats 400000 in
/-- portageref02.Add -/
theorem radd_any (A : Option Addr) (n c : Nat) (l : List UInt8) (w : World) (hR : Rd w A n c l) (hn : n ≤ 140737488355000) :
    Calls Try.prog 27 #[.slice A n c] w fun e w' => ∃ A' c', e = .returned (.slice A' (n + 2) c') ∧ OwnB w' w.heap.size 5 (.slice A' (n + 2) c') (Crc.added l) ∧ Below w.heap.size w w' := by
  have hbig := hR.big
  have hlen := hR.len
  go_enter Try.func27, Try.ntmps27
  go_wp2_with fail
  refine (rfcs_any _ _ _ l _ hR).mono ?_
  rintro e w' ⟨rfl, rfl⟩
  go_wp2_with (first
    | (at_builtin; refine wpList_app _ rfl elemB (.tmp 7) (.tmp 8) rfl rfl (own_empty _ w.heap.size _ _ 1 (by simp) (by omega)) rfl ((hR.stays (Stays.alloc w _)).src) n (by omega) (by omega) (by simp) ?_; intro A1 c1 w1 hown1 hg1 hat1)
    | (at_builtin; refine wpList_app _ rfl elemB (.tmp 10) (.tmp 17) rfl rfl (hown1.alloc _) rfl (Src.new' w1 _ rfl [_, _] _ 2 1 rfl (by simp [Value.oneCell'])) (n + 2) (by omega) (by omega) (by have := hg1.size; simp at this ⊢; omega) ?_; intro A2 c2 w2 hown2 hg2 hat2))
  go_ret
  have b1 : Below w.heap.size w w1 := below_app' ((Below.refl _ _).alloc (Nat.le_refl _) _) (own_empty _ w.heap.size _ _ 1 (by simp) (by omega)) hg1 (Nat.le_refl _) (by simp)
  exact ⟨_, _, rfl, OwnB.of hown2 _ (by rw [wrap_div256, two_bytes, List.nil_append, ← bs_append]; rfl), below_app' (b1.alloc b1.size _) (hown1.alloc _) hg2 (Nat.le_refl _) (by have := b1.size; simp; omega)⟩

set_option maxHeartbeats 400000 in
/-- portageref02.Right -/
theorem rright_any (A : Option Addr) (n c : Nat) (l : List UInt8) (w : World) (hR : Rd w A n c l) (hn : n ≤ 140737488355000) :
    Calls Try.prog 36 #[.slice A n c] w fun e w' => e = .returned (.bool (Crc.right l)) ∧ Below w.heap.size w w' := by
  have hbig := hR.big
  have hcap := hR.cap
  have hlen := hR.len
  by_cases h2 : 2 ≤ n
  · obtain ⟨m, rfl⟩ : ∃ m, n = m + 2 := ⟨n - 2, by omega⟩
    have hT := hR.take (k := m) (by omega)
    have HR : Hid (Crc.right l = (Crc.added (l.take m) == l)) := by
      show _ = _
      unfold Crc.right
      rw [hlen]
      simp
    have hs := fun w' (h : Rd w' A (m + 2) c l) => h.string (P := Try.prog) 25 9 5 Try.underlying25 Try.underlying5 Try.underlying9
    have h0 : (0 : Int) ≤ (m : Int) := by omega
    have h1 : (2 : Int) ≤ (m : Int) + 2 := by omega
    have h4 : (m : Int) ≤ (c : Int) := by omega
    have hl := Lib.hid hlen; clear hlen
    have h5 : IntKind.i64.wrap (m : Int) = (m : Int) := IntWalk.i64_in _ ⟨by omega, by omega⟩
    go_enter Try.func36, Try.ntmps36
    go_wp2_with fail
    refine Free.wp_seq (I := fun w' => Below w.heap.size w w') (Gr := fun w1 w2 => Below w1.heap.size w1 w2) (by kernel_rfl) (by kernel_rfl) (Below.refl _ _).drew ?_
    refine Free.Seq.val ?_ (fun _ => Below.refl _ _) (fun a w1 hI hp => ?_) ?_
    rotate_left
    · have e0 := hp.slotV 0 (by kernel_rfl) rfl; simp at e0
      refine ⟨Free.want_none rfl, ?_⟩
      clear hp
      go_simp
      rfl
    refine Free.Seq.val ?_ (fun _ => Below.refl _ _) (fun a w1 hI hp => ?_) ?_
    rotate_left
    · have e3 := hp.backV 0 0 rfl rfl rfl rfl rfl
      refine ⟨Free.want_none rfl, ?_⟩
      clear hp
      go_simp
      rfl
    refine Free.Seq.val ?_ (fun _ => Below.refl _ _) (fun a w1 hI hp => ?_) ?_
    rotate_left
    · have e4 := hp.backV 1 0 rfl rfl rfl rfl rfl
      refine ⟨Free.want_none rfl, ?_⟩
      clear hp
      go_simp
      rfl
    refine Free.Seq.val ?_ (fun _ => Below.refl _ _) (fun a w1 hI hp => ?_) ?_
    rotate_left
    · have e5 := hp.backV 2 0 rfl rfl rfl rfl rfl
      refine ⟨Free.want_none rfl, ?_⟩
      clear hp
      go_simp
      rfl
    refine Free.Seq.val ?_ (fun _ => Below.refl _ _) (fun a w1 hI hp => ?_) ?_
    rotate_left
    · have e6 := hp.backV 3 0 rfl rfl rfl rfl rfl; have e0 := hp.slotV 0 (by kernel_rfl) rfl; simp at e0
      refine ⟨hp.want rfl rfl rfl e6, ?_⟩
      clear hp
      go_simp
      rfl
    refine Free.Seq.val ?_ (fun _ => Below.refl _ _) (fun a w1 hI hp => ?_) ?_
    rotate_left
    · have e6 := hp.backV 3 1 rfl rfl rfl rfl rfl; have e0 := hp.slotV 0 (by kernel_rfl) rfl; simp at e0
      refine ⟨hp.want rfl rfl rfl e6, ?_⟩
      clear hp
      go_simp
      rfl
    refine Free.Seq.val ?_ (fun _ => Below.refl _ _) (fun a w1 hI hp => ?_) ?_
    rotate_left
    · have e6 := hp.backV 3 2 rfl rfl rfl rfl rfl; have e8 := hp.backV 5 0 rfl rfl rfl rfl rfl
      refine ⟨hp.want rfl rfl rfl e6, ?_⟩
      clear hp
      go_simp
      rfl
    refine Free.Seq.val ?_ (fun _ => Below.refl _ _) (fun a w1 hI hp => ?_) ?_
    rotate_left
    · have e6 := hp.backV 3 3 rfl rfl rfl rfl rfl; have e9 := hp.backV 6 0 rfl rfl rfl rfl rfl
      refine ⟨hp.want rfl rfl rfl e6, ?_⟩
      clear hp
      go_simp
      rfl
    refine Free.Seq.val ?_ (fun _ => Below.refl _ _) (fun a w1 hI hp => ?_) ?_
    rotate_left
    · have e6 := hp.backV 3 4 rfl rfl rfl rfl rfl; have e7 := hp.backV 4 3 rfl rfl rfl rfl rfl; have e10 := hp.backV 7 0 rfl rfl rfl rfl rfl
      refine ⟨hp.want rfl rfl rfl e6, ?_⟩
      clear hp
      go_simp
      rfl
    refine Free.Seq.call (T := fun v w' => ∃ A' c', v = .slice A' (m + 2) c' ∧ Rd w' A' (m + 2) c' (Crc.added (l.take m))) (by rintro v w1 w2 ⟨A', c', rfl, hr⟩ hg; exact ⟨_, _, rfl, hr.below hg⟩) (fun a w1 hI hp => ?_) ?_
    · have e6 := hp.backV 3 5 rfl rfl rfl rfl rfl; have e11 := hp.backV 8 0 rfl rfl rfl rfl rfl
      refine ⟨hp.want rfl rfl rfl e6, 27, #[.slice A m c], ?_, ?_⟩
      · go_simp
      · refine (radd_any _ _ _ (l.take m) _ (hT.below hI) (by omega)).mono ?_
        rintro e w' ⟨A', c', rfl, hown, hb⟩
        exact ⟨_, rfl, ⟨_, _, rfl, hown.rd (by have := hl.out; simp [Crc.added]; omega) (by omega)⟩, hb, hI.trans (hb.mono hI.size)⟩
    refine Free.Seq.val ?_ (fun _ => Below.refl _ _) (fun a w1 hI hp => ?_) ?_
    rotate_left
    · have e6 := hp.backV 3 6 rfl rfl rfl rfl rfl
      obtain ⟨A', c', e12, hr⟩ := hp.back 9 0 rfl rfl rfl rfl rfl
      have hc := hr.string (P := Try.prog) 25 9 5 Try.underlying25 Try.underlying5 Try.underlying9
      refine ⟨hp.want rfl rfl rfl e6, ?_⟩
      clear hp
      go_simp
      rfl
    refine Free.Seq.val ?_ (fun _ => Below.refl _ _) (fun a w1 hI hp => ?_) ?_
    rotate_left
    · have e6 := hp.backV 3 7 rfl rfl rfl rfl rfl; have e0 := hp.slotV 0 (by kernel_rfl) rfl; simp at e0
      refine ⟨hp.want rfl rfl rfl e6, ?_⟩
      clear hp
      go_simp
      rfl
    refine Free.Seq.val ?_ (fun _ => Below.refl _ _) (fun a w1 hI hp => ?_) ?_
    rotate_left
    · have e6 := hp.backV 3 8 rfl rfl rfl rfl rfl; have e14 := hp.backV 11 0 rfl rfl rfl rfl rfl
      have hc := hs w1 (hR.below hI)
      refine ⟨hp.want rfl rfl rfl e6, ?_⟩
      clear hp
      go_simp
      rfl
    refine Free.Seq.val ?_ (fun _ => Below.refl _ _) (fun a w1 hI hp => ?_) ?_
    rotate_left
    · have e6 := hp.backV 3 9 rfl rfl rfl rfl rfl; have e13 := hp.backV 10 2 rfl rfl rfl rfl rfl; have e15 := hp.backV 12 0 rfl rfl rfl rfl rfl
      refine ⟨hp.want rfl rfl rfl e6, ?_⟩
      clear hp
      go_simp
      rfl
    refine Free.Seq.val ?_ (fun _ => Below.refl _ _) (fun a w1 hI hp => ?_) ?_
    rotate_left
    · have e6 := hp.backV 3 10 rfl rfl rfl rfl rfl; have e16 := hp.backV 13 0 rfl rfl rfl rfl rfl
      refine ⟨Free.want_none rfl, ?_⟩
      clear hp
      go_simp
      rfl
    refine Free.Seq.val ?_ (fun _ => Below.refl _ _) (fun a w1 hI hp => ?_) ?_
    rotate_left
    · have e17 := hp.backV 14 0 rfl rfl rfl rfl rfl
      refine ⟨Free.want_none rfl, ?_⟩
      clear hp
      go_simp
      rfl
    refine Free.Seq.done (by simp) (fun wz hIz => ?_)
    simp only [List.reverse_cons, List.reverse_nil, List.nil_append, List.cons_append, Free.All, Free.eqF, forall_eq]
    rintro v ⟨A', c', rfl, hr⟩
    simp only [Free.putL, Act.put, List.setIfInBounds_toArray, List.set_cons_zero, List.set_cons_succ]
    go_wp2
    go_ret
    exact ⟨ret_bool HR.out.symm, hIz⟩
  · have hlt : (n : Int) < 2 := by omega
    have hd2 : decide ((2 : Int) ≤ (n : Int)) = false := by simp; omega
    have hr : Crc.right l = false := by unfold Crc.right; simp; omega
    rw [hr]
    clear hlen hr h2
    go_enter Try.func36, Try.ntmps36
    go_wp2_with fail
    go_quiet (fail)
    go_wp2
    go_ret
    exact ⟨rfl, below_drewN (Below.refl _ _) _⟩

theorem flip_val (x : UInt8) (r : Nat) (hr : r < 8) : Value.int .u8 (bits .xor .u8 (x.toNat : Int) (2 ^ r % 256)) = bv (x ^^^ Crc.bit r) := by
  have hx := x.toNat_lt
  have h2 : 2 ^ r < 256 := Nat.lt_of_lt_of_le (Nat.pow_lt_pow_right (by omega) hr) (by decide)
  have e : ((2 : Int) ^ r % 256) = ((2 ^ r : Nat) : Int) := by
    have : ((2 : Int) ^ r) = ((2 ^ r : Nat) : Int) := by simp
    rw [this]
    generalize 2 ^ r = y at h2 ⊢
    omega
  rw [e, u8_xor_nat _ _ (by simpa using hx) h2]
  simp [bv, UInt8.toNat_xor, Crc.bit_toNat r hr]

theorem hit_bit (mask k : Nat) : (((mask : Int) / 2 ^ k).tmod 2 == 1) = (mask / 2 ^ k % 2 == 1) := by
  have e : ((mask : Int) / 2 ^ k) = ((mask / 2 ^ k : Nat) : Int) := by simp
  rw [e, Int.tmod_eq_emod_of_nonneg (Int.natCast_nonneg _), Bool.eq_iff_iff]
  simp
  omega

def nine : List UInt8 := [49, 50, 51, 52, 53, 54, 55, 56, 57]
def l1 : List UInt8 := nine.take 4
def l2 : List UInt8 := nine.drop 4
def l3 : List UInt8 := nine.take 2
def l4 : List UInt8 := nine.drop 2
end Go.Proofs.Ytpfilomckijmkaa
